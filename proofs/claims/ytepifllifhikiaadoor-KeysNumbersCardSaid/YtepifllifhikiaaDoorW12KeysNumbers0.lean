import Derived.Test.YtepifllifhikiaaDoorF12
set_option linter.unusedSimpArgs false
set_option linter.unusedVariables false
namespace Go.Proofs
open Go.Fw
set_option maxHeartbeats 1000000 in
set_option maxRecDepth 100000 in
theorem keys_New_int_w {s : St}  {r : KeysIndexInt}  (h : keys_New_int = some r) : Calls Tryd.prog 10 #[] s.w (Ret s K0 (fun s1 v => ∃ (ku0 : Nat), ∃ (u0 : Value), v = u0 ∧ s.n < ku0 ∧ OKeysIndexInt s1 ku0 u0 r)) := by
 unfold keys_New_int at h
 have hS := Step.r0 K0 s
 refine k_fn (rs := [0]) (args := []) Tryd.func10 rfl rfl rfl rfl ?_
 refine k_seq ?_
 refine k_region ?_
 refine k_assign rfl rfl ?_
 refine k_nil ?_
 refine k_seq ?_
 refine k_region ?_
 refine k_build plc64 zero64 rfl Parts.nil (by rfl) rfl ?_
 refine k_as (v := .agg #[.slice none 0 0]) rfl ?_
 refine k_box rfl rfl ?_
 intro s1 b1 st1 h1 ge1
 have szs1 := st1.size
 have hS := hS.trans0 st1
 have lt1 := h1.lt
 refine k_assign rfl rfl ?_
 refine k_nil ?_
 refine k_keep [(0, _)] ⟨rfl, trivial⟩ ?_
 refine k_ret ?_
 obtain rfl := Option.some.inj h
 refine ⟨_, rfl, Ret.mk hS ?_⟩
 exact ⟨b1 + 1, _, rfl, by omega, (OKeysIndexInt.mk_ (⟨[]⟩ : KeysIndexInt) (by omega) (Own.nil (by first | omega | (dsimp only; omega)) (by first | omega | (dsimp only; omega))) h1)⟩

set_option maxHeartbeats 1000000 in
set_option maxRecDepth 100000 in
theorem keys_Index_int_rows_w {s : St} {k0 : Nat} {p0 : Value} {a0 : KeysIndexInt} {r : (List KeysEntryInt)} (ho0 : OKeysIndexInt s k0 p0 a0) (h : keys_Index_int_rows a0 = some r) : Calls Tryd.prog 33 #[p0] s.w (Ret s K0 (fun s1 v => ∃ (u0 : Value), v = u0 ∧ SL s1 ⟨k0, 2⟩ u0 2 (r.map dKeysEntryInt))) := by
 unfold keys_Index_int_rows at h
 have le0 := ho0.le
 have ne0 := ho0.ne
 obtain ⟨bo0, rfl⟩ := ho0.ptr
 obtain ⟨wo0_0, hb_o0, hwo0_0⟩ := ho0.at_
 have hS := Step.r0 K0 s
 refine k_fn (rs := [2]) (args := [.pointer (some ⟨bo0, 0, none⟩)]) Tryd.func33 rfl rfl rfl rfl ?_
 refine k_seq ?_
 refine k_region ?_
 refine k_assign rfl rfl ?_
 refine k_nil ?_
 refine k_seq ?_
 refine k_seq ?_
 refine k_region ?_
 refine k_move rfl rfl ?_
 refine k_eql_pnil Tryd.underlying26 rfl rfl rfl ?_
 refine k_nil ?_
 refine k_keep [(0, _), (2, _), (4, _)] ⟨rfl, rfl, rfl, trivial⟩ ?_
 refine k_cond_false rfl ?_
 refine k_skip ?_
 refine k_seq ?_
 refine k_region ?_
 refine k_move rfl rfl ?_
 refine k_nilCheck rfl rfl ?_
 refine k_field_addr fld64_0 rfl rfl ?_
 refine k_load_blk one62 rfl hb_o0 rfl rfl ?_
 refine k_assign rfl rfl ?_
 refine k_nil ?_
 refine k_keep [(2, _)] ⟨rfl, trivial⟩ ?_
 refine k_ret ?_
 obtain rfl := Option.some.inj h
 refine ⟨_, rfl, Ret.mk hS ?_⟩
 exact ⟨_, rfl, (hwo0_0.sl)⟩

set_option maxHeartbeats 1000000 in
set_option maxRecDepth 100000 in
theorem keys_Index_int_place_1_w {s : St} {cs0 : List Value} {a0 : KeysEntryInt} {a1 : (List UInt8)} {r : Int} (hp0 : RC s cs0 (dKeysEntryInt a0)) (h : keys_Index_int_place_1 a0 a1 = some r) : Calls Tryd.prog 45 #[.agg cs0.toArray, S a1] s.w (Ret s K0 (fun s1 v => v = .int .i64 r)) := by
 unfold keys_Index_int_place_1 at h
 obtain rfl := opnKeysEntryInt hp0
 have hS := Step.r0 K0 s
 refine k_fn (rs := [4]) (args := [.agg #[S a0.key_, .int .i64 a0.v], S a1]) Tryd.func45 rfl rfl rfl rfl ?_
 refine k_seq ?_
 refine k_region ?_
 refine k_box rfl rfl ?_
 intro s1 b1 st1 h1 ge1
 have szs1 := st1.size
 have hS := hS.trans0 st1
 have lt1 := h1.lt
 refine k_assign rfl rfl ?_
 refine k_nil ?_
 refine k_keep [(1, _), (2, _), (4, _)] ⟨rfl, rfl, rfl, trivial⟩ ?_
 refine k_seq ?_
 refine k_region ?_
 refine k_field_addr fld67_0 rfl rfl ?_
 refine k_load_blk one9 rfl h1 rfl rfl ?_
 refine k_move rfl rfl ?_
 refine k_call cal46 rfl (compare_w (a0 := a0.key_) (a1 := a1)) rfl ?_
 rintro s2 _ st2 rfl
 have szs2 := st2.size
 have hS := hS.trans0 st2
 refine k_assign rfl rfl ?_
 refine k_nil ?_
 refine k_keep [(4, _)] ⟨rfl, trivial⟩ ?_
 refine k_ret ?_
 obtain rfl := Option.some.inj h
 refine ⟨_, rfl, Ret.mk hS ?_⟩
 exact rfl

set_option maxHeartbeats 1000000 in
set_option maxRecDepth 100000 in
theorem slices_BinarySearchFunc_keys_entry_int_keys_entry_int_string_f45_w {s : St} {l0 : Lab} {v0 : Value} {a0 : (List KeysEntryInt)} {a1 : (List UInt8)} {r : (Int × Bool)} (hp0 : SL s l0 v0 2 (a0.map dKeysEntryInt)) (h : slices_BinarySearchFunc_keys_entry_int_keys_entry_int_string_f45 a0 a1 = some r) : Calls Tryd.prog 44 #[v0, S a1, .func (.func 45) #[] #[]] s.w (Ret s K0 (fun s1 v => v = .tuple #[.int .i64 r.1, .bool r.2])) := by
 unfold slices_BinarySearchFunc_keys_entry_int_keys_entry_int_string_f45 at h
 obtain ⟨lf0, lf0le, lf0ne, hp0⟩ := hp0.fix
 have hS := Step.r0 K0 s
 refine k_fn (rs := [6, 7]) (args := [v0, S a1, .func (.func 45) #[] #[]]) Tryd.func44 rfl rfl rfl rfl ?_
 refine k_seq ?_
 refine k_region ?_
 refine k_assign rfl rfl ?_
 refine k_assign rfl rfl ?_
 refine k_nil ?_
 refine k_seq ?_
 refine k_region ?_
 refine k_move rfl rfl ?_
 refine k_len Tryd.underlying62 rfl hp0.hasLen rfl ?_
 refine k_as (v := .int .i64 (a0.length : Int)) (by simp only [List.length_map]) ?_
 refine k_assign rfl rfl ?_
 refine k_nil ?_
 refine k_keep [(0, _), (1, _), (2, _), (6, _), (7, _), (8, _)] ⟨rfl, rfl, rfl, rfl, rfl, rfl, trivial⟩ ?_
 refine k_seq ?_
 refine k_region ?_
 refine k_move rfl rfl ?_
 refine k_assign rfl rfl ?_
 refine k_assign rfl rfl ?_
 refine k_nil ?_
 refine k_keep [(0, _), (1, _), (2, _), (6, _), (7, _), (8, _), (9, _), (10, _)] ⟨rfl, rfl, rfl, rfl, rfl, rfl, rfl, rfl, trivial⟩ ?_
 refine k_seq ?_
 obtain ⟨kj1, hK1, h⟩ := jn_out h
 have hE1 := Step.r0 K0 s
 refine k_cutc (X := St × Int) [(0, v0), (1, S a1), (2, .func (.func 45) #[] #[]), (6, .int .i64 0), (7, .bool false), (8, .int .i64 (a0.length : Int))] (fun (xL : St × Int) => match xL with | (sl, x2) => [(9, .int .i64 x2)]) (fun (xL : St × Int) (wL : World) => match xL with | (sl, x2) => sl.w = wL ∧ Step K0 s sl ∧ kj1 x2 = some r) ?_ ?_
 ·
  refine k_block ?_
  refine k_loopc (X := St × Int × Int × Nat) [(0, _), (1, _), (2, _), (6, _), (7, _), (8, _)] (fun (xL : St × Int × Int × Nat) => match xL with | (sl, x3, x4, j) => [(9, .int .i64 x3), (10, .int .i64 x4)]) (fun (xL : St × Int × Int × Nat) (wL : World) => match xL with | (sl, x3, x4, j) => sl.w = wL ∧ Step K0 s sl ∧ slices_BinarySearchFunc_keys_entry_int_keys_entry_int_string_f45_l1 a0 a1 kj1 j x3 x4 = some r) (fun (xL : St × Int × Int × Nat) => match xL with | (sl, x3, x4, j) => j) (s, 0, (a0.length : Int), FU) ⟨rfl, rfl, rfl, rfl, rfl, rfl, trivial⟩ ⟨(by first | rfl | (simp <;> rfl)), (by first | rfl | (simp <;> rfl)), trivial⟩ ⟨rfl, (Step.refl _).of0 (by first | exact fun _ h => h | (intro c h; simp [KC, KO, KU, KN, KB] at h <;> omega)), h⟩ ?_
  rintro ⟨s3, x3, x4, j⟩ wL ⟨rfl, hE2, h⟩
  cases j with
  | zero => rw [slices_BinarySearchFunc_keys_entry_int_keys_entry_int_string_f45_l1] at h; exact (noneNe h).elim
  | succ j =>
  rw [slices_BinarySearchFunc_keys_entry_int_keys_entry_int_string_f45_l1] at h
  have szs3 := hE2.size
  have hS := hS.trans0 hE2
  have hE1 := hE1.trans0 hE2
  replace hp0 := hp0.up2 hE2
  refine k_seq ?_
  refine k_seq ?_
  refine k_region ?_
  refine k_move rfl rfl ?_
  refine k_move rfl rfl ?_
  refine k_lss rfl rfl rfl ?_
  refine k_nil ?_
  refine k_keep [(0, _), (1, _), (2, _), (6, _), (7, _), (8, _), (9, _), (10, _), (17, _)] ⟨rfl, rfl, rfl, rfl, rfl, rfl, rfl, rfl, rfl, trivial⟩ ?_
  refine k_cond_dec rfl (fun c4 => ?_) (fun c4 => ?_)
  ·
   have h := itT h c4
   refine k_skip ?_
   refine k_block ?_
   refine k_seq ?_
   refine k_region ?_
   refine k_move rfl rfl ?_
   refine k_move rfl rfl ?_
   refine k_add rfl rfl rfl ?_
   refine k_conv (p := i64 (x3 + x4)) Tryd.underlying3 Tryd.underlying96 rfl rfl ?_
   refine k_as (congrArg (Value.int .u64) (w64 _)) ?_
   refine k_shr (p := ((ofI64 (i64 (x3 + x4))).toNat : Int)) rfl rfl (by decide) rfl ?_
   refine k_as (congrArg (Value.int .u64) (shr64_eq _ _)) ?_
   refine k_conv (p := ((shr64 (ofI64 (i64 (x3 + x4))) 1).toNat : Int)) Tryd.underlying96 Tryd.underlying3 rfl rfl ?_
   refine k_assign rfl rfl ?_
   refine k_nil ?_
   refine k_keep [(0, _), (1, _), (2, _), (6, _), (7, _), (8, _), (9, _), (10, _), (11, _)] ⟨rfl, rfl, rfl, rfl, rfl, rfl, rfl, rfl, rfl, trivial⟩ ?_
   refine k_seq ?_
   refine k_region ?_
   refine k_move rfl rfl ?_
   refine k_move rfl rfl ?_
   refine k_move rfl rfl ?_
   obtain ⟨x5, hx5, h⟩ := ob h
   refine k_ixaddr Tryd.underlying62 size67 rfl rfl hp0 (geti_out hx5).1 (geti_map hx5) rfl ?_
   intro qx5 hqx5
   refine k_load_agg (by exact agg67) rfl hqx5 rfl ?_
   intro cs5 h5
   obtain rfl := opnKeysEntryInt h5
   refine k_move rfl rfl ?_
   obtain ⟨x6, hx6, h⟩ := ob h
   refine k_callv cal45 rfl rfl (keys_Index_int_place_1_w  (clsKeysEntryInt x5) hx6) rfl ?_
   rintro s6 vr6 st6 rfl
   have szs6 := st6.size
   have hS := hS.trans0 st6
   have hE1 := hE1.trans0 st6
   have hE2 := hE2.trans0 st6
   refine k_lss rfl rfl rfl ?_
   refine k_nil ?_
   refine k_keep [(0, _), (1, _), (2, _), (6, _), (7, _), (8, _), (9, _), (10, _), (11, _), (31, _)] ⟨rfl, rfl, rfl, rfl, rfl, rfl, rfl, rfl, rfl, rfl, trivial⟩ ?_
   refine k_cond_dec rfl (fun c7 => ?_) (fun c7 => ?_)
   ·
    have h := itT h c7
    refine k_region ?_
    refine k_move rfl rfl ?_
    refine k_add rfl rfl rfl ?_
    refine k_assign rfl rfl ?_
    refine k_nil ?_
    refine k_blk ?_
    exact k_stop ⟨(s6, i64 ((i64 ((shr64 (ofI64 (i64 (x3 + x4))) 1).toNat : Int)) + 1), x4, j), ⟨(by first | rfl | (simp <;> rfl)), (by first | rfl | (simp <;> rfl)), trivial⟩, ⟨rfl, rfl, rfl, rfl, rfl, rfl, trivial⟩, ⟨rfl, hE2, h⟩, (by simp)⟩
   ·
    have h := itF h c7
    refine k_region ?_
    refine k_move rfl rfl ?_
    refine k_assign rfl rfl ?_
    refine k_nil ?_
    refine k_blk ?_
    exact k_stop ⟨(s6, x3, i64 ((shr64 (ofI64 (i64 (x3 + x4))) 1).toNat : Int), j), ⟨(by first | rfl | (simp <;> rfl)), (by first | rfl | (simp <;> rfl)), trivial⟩, ⟨rfl, rfl, rfl, rfl, rfl, rfl, trivial⟩, ⟨rfl, hE2, h⟩, (by simp)⟩
  ·
   have h := itF h c4
   refine k_exit rfl ?_
   exact k_stop ⟨(s3, x3), ⟨(by first | rfl | (simp <;> rfl)), trivial⟩, ⟨rfl, rfl, rfl, rfl, rfl, rfl, trivial⟩, ⟨rfl, hE1, h⟩⟩
 ·
  rintro ⟨s8, x2⟩ wL ⟨rfl, hE1, h⟩
  rw [hK1] at h
  have szs8 := hE1.size
  have hS := hS.trans0 hE1
  replace hp0 := hp0.up2 hE1
  refine k_seq ?_
  refine k_region ?_
  refine k_move rfl rfl ?_
  refine k_move rfl rfl ?_
  refine k_move rfl rfl ?_
  refine k_lss rfl rfl rfl ?_
  refine k_move rfl rfl ?_
  obtain ⟨x7, hx7, h⟩ := ob h
  have hE9 := Step.r0 K0 s8
  refine k_cutl (X := St) 9 [(0, v0), (1, S a1), (2, .func (.func 45) #[] #[]), (6, .int .i64 0), (7, .bool false), (8, .int .i64 (a0.length : Int)), (9, .int .i64 x2), (35, .int .i64 x2), (36, .int .i64 x2), (37, .int .i64 (a0.length : Int)), (38, .bool (decide (x2 < (a0.length : Int))))] (fun _ => [(48, .bool x7)]) (fun sl wL => sl.w = wL ∧ Step K0 s8 sl) ?_ ?_
  ·
   refine k_again 39 rfl ?_
   refine k_split (fun c10 => ?_) (fun c10 => ?_)
   ·
    have hx7 := itT hx7 c10
    refine k_yes rfl rfl ?_
    refine k_move rfl rfl ?_
    refine k_yes rfl rfl ?_
    refine k_move rfl rfl ?_
    refine k_yes rfl rfl ?_
    refine k_move rfl rfl ?_
    refine k_yes rfl rfl ?_
    obtain ⟨x8, hx8, hx7⟩ := ob hx7
    refine k_ixaddr Tryd.underlying62 size67 rfl rfl hp0 (geti_out hx8).1 (geti_map hx8) rfl ?_
    intro qx8 hqx8
    refine k_yes rfl rfl ?_
    refine k_load_agg (by exact agg67) rfl hqx8 rfl ?_
    intro cs11 h11
    obtain rfl := opnKeysEntryInt h11
    refine k_yes rfl rfl ?_
    refine k_move rfl rfl ?_
    refine k_yes rfl rfl ?_
    obtain ⟨x9, hx9, hx7⟩ := ob hx7
    refine k_callv cal45 rfl rfl (keys_Index_int_place_1_w  (clsKeysEntryInt x8) hx9) rfl ?_
    rintro s12 vr12 st12 rfl
    have szs12 := st12.size
    have hS := hS.trans0 st12
    have hE9 := hE9.trans0 st12
    refine k_yes rfl rfl ?_
    refine k_eql rfl rfl rfl ?_
    refine k_pickT rfl rfl rfl rfl ?_
    exact k_met ⟨s12, ⟨(congrArg (fun b => some (Value.bool b)) (Option.some.inj hx7)), trivial⟩, ⟨rfl, rfl, rfl, rfl, rfl, rfl, rfl, rfl, rfl, rfl, rfl, trivial⟩, rfl, hE9⟩
   ·
    have hx7 := itF hx7 c10
    refine k_no rfl rfl rfl rfl ?_
    refine k_no rfl rfl rfl rfl ?_
    refine k_no rfl rfl rfl rfl ?_
    refine k_no rfl rfl rfl rfl ?_
    refine k_no rfl rfl rfl rfl ?_
    refine k_no rfl rfl rfl rfl ?_
    refine k_no rfl rfl rfl rfl ?_
    refine k_no rfl rfl rfl rfl ?_
    refine k_pickF rfl rfl rfl rfl ?_
    exact k_met ⟨s8, ⟨(congrArg (fun b => some (Value.bool b)) (Option.some.inj hx7)), trivial⟩, ⟨rfl, rfl, rfl, rfl, rfl, rfl, rfl, rfl, rfl, rfl, rfl, trivial⟩, rfl, hE9⟩
  ·
   rintro s13 wL ⟨rfl, hE9⟩
   have szs13 := hE9.size
   have hS := hS.trans0 hE9
   refine k_assign rfl rfl ?_
   refine k_assign rfl rfl ?_
   refine k_nil ?_
   refine k_keep [(6, _), (7, _)] ⟨rfl, rfl, trivial⟩ ?_
   refine k_ret ?_
   obtain rfl := Option.some.inj h
   refine ⟨_, rfl, Ret.mk hS ?_⟩
   exact rfl

set_option maxHeartbeats 1000000 in
set_option maxRecDepth 100000 in
theorem keys_Index_int_place_w {s : St} {k0 : Nat} {p0 : Value} {a0 : KeysIndexInt} {a1 : (List UInt8)} {r : (Int × Bool)} (ho0 : OKeysIndexInt s k0 p0 a0) (h : keys_Index_int_place a0 a1 = some r) : Calls Tryd.prog 29 #[p0, S a1] s.w (Ret s K0 (fun s1 v => v = .tuple #[.int .i64 r.1, .bool r.2])) := by
 unfold keys_Index_int_place at h
 have le0 := ho0.le
 have ne0 := ho0.ne
 have hS := Step.r0 K0 s
 refine k_fn (rs := [4, 5]) (args := [p0, S a1]) Tryd.func29 rfl rfl rfl rfl ?_
 refine k_seq ?_
 refine k_region ?_
 refine k_assign rfl rfl ?_
 refine k_assign rfl rfl ?_
 refine k_nil ?_
 refine k_seq ?_
 refine k_region ?_
 refine k_move rfl rfl ?_
 obtain ⟨x1, hx1, h⟩ := ob h
 refine k_call cal33 rfl (keys_Index_int_rows_w  ho0 hx1) rfl ?_
 rintro s1 v1_0 st1 ⟨_, rfl, h1_0⟩
 have szs1 := st1.size
 have hS := hS.trans0 st1
 refine k_move rfl rfl ?_
 obtain ⟨x2, hx2, h⟩ := ob h
 refine k_call cal44 rfl (slices_BinarySearchFunc_keys_entry_int_keys_entry_int_string_f45_w  h1_0 hx2) rfl ?_
 rintro s2 vr2 st2 rfl
 have szs2 := st2.size
 have hS := hS.trans0 st2
 refine k_extract rfl rfl rfl ?_
 refine k_extract rfl rfl rfl ?_
 refine k_assign rfl rfl ?_
 refine k_assign rfl rfl ?_
 refine k_nil ?_
 refine k_keep [(4, _), (5, _)] ⟨rfl, rfl, trivial⟩ ?_
 refine k_ret ?_
 obtain rfl := Option.some.inj h
 refine ⟨_, rfl, Ret.mk hS ?_⟩
 exact rfl

set_option maxHeartbeats 1000000 in
set_option maxRecDepth 100000 in
theorem keys_Index_int_Len_w {s : St} {k0 : Nat} {p0 : Value} {a0 : KeysIndexInt} {r : Int} (ho0 : OKeysIndexInt s k0 p0 a0) (h : keys_Index_int_Len a0 = some r) : Calls Tryd.prog 28 #[p0] s.w (Ret s K0 (fun s1 v => v = .int .i64 r)) := by
 unfold keys_Index_int_Len at h
 have le0 := ho0.le
 have ne0 := ho0.ne
 have hS := Step.r0 K0 s
 refine k_fn (rs := [2]) (args := [p0]) Tryd.func28 rfl rfl rfl rfl ?_
 refine k_seq ?_
 refine k_region ?_
 refine k_assign rfl rfl ?_
 refine k_nil ?_
 refine k_seq ?_
 refine k_region ?_
 refine k_move rfl rfl ?_
 obtain ⟨x1, hx1, h⟩ := ob h
 refine k_call cal33 rfl (keys_Index_int_rows_w  ho0 hx1) rfl ?_
 rintro s1 v1_0 st1 ⟨_, rfl, h1_0⟩
 have szs1 := st1.size
 have hS := hS.trans0 st1
 refine k_len Tryd.underlying62 rfl h1_0.hasLen rfl ?_
 refine k_as (v := .int .i64 (x1.length : Int)) (by simp only [List.length_map]) ?_
 refine k_assign rfl rfl ?_
 refine k_nil ?_
 refine k_keep [(2, _)] ⟨rfl, trivial⟩ ?_
 refine k_ret ?_
 obtain rfl := Option.some.inj h
 refine ⟨_, rfl, Ret.mk hS ?_⟩
 exact rfl

set_option maxHeartbeats 1000000 in
set_option maxRecDepth 100000 in
theorem keys_Index_int_Get_w {s : St} {k0 : Nat} {p0 : Value} {a0 : KeysIndexInt} {a1 : (List UInt8)} {r : (Int × Bool)} (ho0 : OKeysIndexInt s k0 p0 a0) (h : keys_Index_int_Get a0 a1 = some r) : Calls Tryd.prog 23 #[p0, S a1] s.w (Ret s K0 (fun s1 v => v = .tuple #[.int .i64 r.1, .bool r.2])) := by
 unfold keys_Index_int_Get at h
 have le0 := ho0.le
 have ne0 := ho0.ne
 obtain ⟨bo0, rfl⟩ := ho0.ptr
 obtain ⟨wo0_0, hb_o0, hwo0_0⟩ := ho0.at_
 have hS := Step.r0 K0 s
 refine k_fn (rs := [4, 5]) (args := [.pointer (some ⟨bo0, 0, none⟩), S a1]) Tryd.func23 rfl rfl rfl rfl ?_
 refine k_seq ?_
 refine k_region ?_
 refine k_assign rfl rfl ?_
 refine k_assign rfl rfl ?_
 refine k_nil ?_
 refine k_seq ?_
 refine k_region ?_
 refine k_move rfl rfl ?_
 refine k_move rfl rfl ?_
 obtain ⟨x1, hx1, h⟩ := ob h
 refine k_call cal29 rfl (keys_Index_int_place_w  (OKeysIndexInt.mk_ a0 (by omega) hwo0_0 hb_o0) hx1) rfl ?_
 rintro s1 vr1 st1 rfl
 have szs1 := st1.size
 have hS := hS.trans0 st1
 replace hwo0_0 := hwo0_0.up2 st1
 replace hb_o0 := hb_o0.up2 st1
 refine k_move rfl rfl ?_
 refine k_extract rfl rfl rfl ?_
 refine k_extract rfl rfl rfl ?_
 refine k_assign rfl rfl ?_
 refine k_assign rfl rfl ?_
 refine k_nil ?_
 refine k_keep [(0, _), (4, _), (5, _), (6, _)] ⟨rfl, rfl, rfl, rfl, trivial⟩ ?_
 refine k_seq ?_
 refine k_seq ?_
 refine k_region ?_
 refine k_move rfl rfl ?_
 refine k_not rfl rfl ?_
 refine k_nil ?_
 refine k_keep [(0, _), (4, _), (5, _), (6, _), (14, _)] ⟨rfl, rfl, rfl, rfl, rfl, trivial⟩ ?_
 refine k_cond rfl (fun c2 => ?_) (fun c2 => ?_)
 ·
  have h := ibT h c2
  refine k_seq ?_
  refine k_region ?_
  refine k_move rfl rfl ?_
  refine k_assign rfl rfl ?_
  refine k_assign rfl rfl ?_
  refine k_nil ?_
  refine k_keep [(0, _), (4, _), (5, _), (6, _)] ⟨rfl, rfl, rfl, rfl, trivial⟩ ?_
  refine k_ret ?_
  obtain rfl := Option.some.inj h
  refine ⟨_, rfl, Ret.mk hS ?_⟩
  exact rfl
 ·
  have h := ibF h c2
  refine k_skip ?_
  refine k_seq ?_
  refine k_region ?_
  refine k_move rfl rfl ?_
  refine k_nilCheck rfl rfl ?_
  refine k_field_addr fld64_0 rfl rfl ?_
  refine k_load_blk one62 rfl hb_o0 rfl rfl ?_
  refine k_move rfl rfl ?_
  obtain ⟨x2, hx2, h⟩ := ob h
  refine k_ixaddr_own Tryd.underlying62 size67 rfl rfl hwo0_0 (geti_out hx2).1 (geti_map hx2) rfl ?_
  intro qx2 hqx2 heqx2
  refine k_field_own rfl (Elt.toO heqx2) hqx2 (by rfl) (by rfl) fld67_1 rfl ?_
  intro q3 h3 he3
  refine k_load_val one3 rfl h3 rfl ?_
  refine k_assign rfl rfl ?_
  refine k_assign rfl rfl ?_
  refine k_nil ?_
  refine k_keep [(4, _), (5, _)] ⟨rfl, rfl, trivial⟩ ?_
  refine k_ret ?_
  obtain rfl := Option.some.inj h
  refine ⟨_, rfl, Ret.mk hS ?_⟩
  exact rfl

set_option maxHeartbeats 1000000 in
set_option maxRecDepth 100000 in
theorem keys_Index_int_First_w {s : St} {k0 : Nat} {p0 : Value} {a0 : KeysIndexInt} {a1 : (List UInt8)} {r : ((List UInt8) × Bool)} (ho0 : OKeysIndexInt s k0 p0 a0) (h : keys_Index_int_First a0 a1 = some r) : Calls Tryd.prog 27 #[p0, S a1] s.w (Ret s K0 (fun s1 v => v = .tuple #[S r.1, .bool r.2])) := by
 unfold keys_Index_int_First at h
 have le0 := ho0.le
 have ne0 := ho0.ne
 obtain ⟨bo0, rfl⟩ := ho0.ptr
 obtain ⟨wo0_0, hb_o0, hwo0_0⟩ := ho0.at_
 have hS := Step.r0 K0 s
 refine k_fn (rs := [4, 5]) (args := [.pointer (some ⟨bo0, 0, none⟩), S a1]) Tryd.func27 rfl rfl rfl rfl ?_
 refine k_seq ?_
 refine k_region ?_
 refine k_assign rfl rfl ?_
 refine k_assign rfl rfl ?_
 refine k_nil ?_
 refine k_seq ?_
 refine k_region ?_
 refine k_move rfl rfl ?_
 refine k_move rfl rfl ?_
 obtain ⟨x1, hx1, h⟩ := ob h
 refine k_call cal29 rfl (keys_Index_int_place_w  (OKeysIndexInt.mk_ a0 (by omega) hwo0_0 hb_o0) hx1) rfl ?_
 rintro s1 vr1 st1 rfl
 have szs1 := st1.size
 have hS := hS.trans0 st1
 replace hwo0_0 := hwo0_0.up2 st1
 replace hb_o0 := hb_o0.up2 st1
 refine k_move rfl rfl ?_
 refine k_extract rfl rfl rfl ?_
 refine k_extract rfl rfl rfl ?_
 refine k_assign rfl rfl ?_
 refine k_assign rfl rfl ?_
 refine k_nil ?_
 refine k_keep [(0, _), (4, _), (5, _), (6, _)] ⟨rfl, rfl, rfl, rfl, trivial⟩ ?_
 refine k_seq ?_
 refine k_seq ?_
 refine k_region ?_
 refine k_move rfl rfl ?_
 refine k_move rfl rfl ?_
 obtain ⟨x2, hx2, h⟩ := ob h
 refine k_call cal28 rfl (keys_Index_int_Len_w  (OKeysIndexInt.mk_ a0 (by omega) hwo0_0 hb_o0) hx2) rfl ?_
 rintro s2 vr2 st2 rfl
 have szs2 := st2.size
 have hS := hS.trans0 st2
 replace hwo0_0 := hwo0_0.up2 st2
 replace hb_o0 := hb_o0.up2 st2
 refine k_geq rfl rfl rfl ?_
 refine k_nil ?_
 refine k_keep [(0, _), (4, _), (5, _), (6, _), (17, _)] ⟨rfl, rfl, rfl, rfl, rfl, trivial⟩ ?_
 refine k_cond_dec rfl (fun c3 => ?_) (fun c3 => ?_)
 ·
  have h := itT h c3
  refine k_seq ?_
  refine k_region ?_
  refine k_assign rfl rfl ?_
  refine k_assign rfl rfl ?_
  refine k_nil ?_
  refine k_keep [(0, _), (4, _), (5, _), (6, _)] ⟨rfl, rfl, rfl, rfl, trivial⟩ ?_
  refine k_ret ?_
  obtain rfl := Option.some.inj h
  refine ⟨_, rfl, Ret.mk hS ?_⟩
  exact rfl
 ·
  have h := itF h c3
  refine k_skip ?_
  refine k_seq ?_
  refine k_region ?_
  refine k_move rfl rfl ?_
  refine k_nilCheck rfl rfl ?_
  refine k_field_addr fld64_0 rfl rfl ?_
  refine k_load_blk one62 rfl hb_o0 rfl rfl ?_
  refine k_move rfl rfl ?_
  obtain ⟨x3, hx3, h⟩ := ob h
  refine k_ixaddr_own Tryd.underlying62 size67 rfl rfl hwo0_0 (geti_out hx3).1 (geti_map hx3) rfl ?_
  intro qx3 hqx3 heqx3
  refine k_field_own rfl (Elt.toO heqx3) hqx3 (by rfl) (by rfl) fld67_0 rfl ?_
  intro q4 h4 he4
  refine k_load_val one9 rfl h4 rfl ?_
  refine k_assign rfl rfl ?_
  refine k_assign rfl rfl ?_
  refine k_nil ?_
  refine k_keep [(4, _), (5, _)] ⟨rfl, rfl, trivial⟩ ?_
  refine k_ret ?_
  obtain rfl := Option.some.inj h
  refine ⟨_, rfl, Ret.mk hS ?_⟩
  exact rfl

set_option maxHeartbeats 1000000 in
set_option maxRecDepth 100000 in
theorem keys_Index_int_Set_w {s : St} {k0 : Nat} {p0 : Value} {a0 : KeysIndexInt} {a1 : (List UInt8)} {a2 : Int} {r : (Bool × KeysIndexInt)} (ho0 : OKeysIndexInt s k0 p0 a0) (h : keys_Index_int_Set a0 a1 a2 = some r) : Calls Tryd.prog 11 #[p0, S a1, .int .i64 a2] s.w (Ret s (KO k0) (fun s1 v => v = .bool r.1 ∧ OKeysIndexInt s1 k0 p0 r.2)) := by
 unfold keys_Index_int_Set at h
 have le0 := ho0.le
 have ne0 := ho0.ne
 obtain ⟨bo0, rfl⟩ := ho0.ptr
 obtain ⟨wo0_0, hb_o0, hwo0_0⟩ := ho0.at_
 have hS := Step.r0 (KO k0) s
 refine k_fn (rs := [6]) (args := [.pointer (some ⟨bo0, 0, none⟩), S a1, .int .i64 a2]) Tryd.func11 rfl rfl rfl rfl ?_
 refine k_seq ?_
 refine k_region ?_
 refine k_assign rfl rfl ?_
 refine k_nil ?_
 refine k_seq ?_
 refine k_seq ?_
 refine k_region ?_
 refine k_move rfl rfl ?_
 refine k_eql_pnil Tryd.underlying26 rfl rfl rfl ?_
 refine k_nil ?_
 refine k_keep [(0, _), (1, _), (2, _), (6, _), (10, _)] ⟨rfl, rfl, rfl, rfl, rfl, trivial⟩ ?_
 refine k_cond_false rfl ?_
 refine k_skip ?_
 refine k_seq ?_
 refine k_region ?_
 refine k_move rfl rfl ?_
 refine k_move rfl rfl ?_
 obtain ⟨x1, hx1, h⟩ := ob h
 refine k_call cal29 rfl (keys_Index_int_place_w  (OKeysIndexInt.mk_ a0 (by omega) hwo0_0 hb_o0) hx1) rfl ?_
 rintro s1 vr1 st1 rfl
 have szs1 := st1.size
 have hS := hS.trans0 st1
 replace hwo0_0 := hwo0_0.up2 st1
 replace hb_o0 := hb_o0.up2 st1
 refine k_move rfl rfl ?_
 refine k_extract rfl rfl rfl ?_
 refine k_extract rfl rfl rfl ?_
 refine k_assign rfl rfl ?_
 refine k_assign rfl rfl ?_
 refine k_nil ?_
 refine k_keep [(0, _), (1, _), (2, _), (6, _), (7, _), (8, _)] ⟨rfl, rfl, rfl, rfl, rfl, rfl, trivial⟩ ?_
 refine k_seq ?_
 refine k_seq ?_
 refine k_region ?_
 refine k_move rfl rfl ?_
 refine k_nil ?_
 refine k_keep [(0, _), (1, _), (2, _), (6, _), (7, _), (17, _)] ⟨rfl, rfl, rfl, rfl, rfl, rfl, trivial⟩ ?_
 refine k_cond rfl (fun c2 => ?_) (fun c2 => ?_)
 ·
  have h := ibT h c2
  refine k_seq ?_
  refine k_region ?_
  refine k_move rfl rfl ?_
  refine k_nilCheck rfl rfl ?_
  refine k_field_addr fld64_0 rfl rfl ?_
  refine k_load_blk one62 rfl hb_o0 rfl rfl ?_
  refine k_move rfl rfl ?_
  refine k_move rfl rfl ?_
  obtain ⟨x2, hx2, h⟩ := ob h
  refine k_ixaddr_own Tryd.underlying62 size67 rfl rfl hwo0_0 (geti_out hx2).1 (geti_map hx2) rfl ?_
  intro qx2 hqx2 heqx2
  refine k_field_own rfl (Elt.toO heqx2) hqx2 (by rfl) (by rfl) fld67_1 rfl ?_
  intro q3 h3 he3
  refine k_store_part (dd := dKeysEntryInt ({ x2 with v := a2 } : KeysEntryInt)) size3 rfl rfl hwo0_0 he3 (by rw [List.length_map]; exact (List.getElem?_eq_some_iff.1 (geti_out hx2).2.2).1) (CellsOf.lit rfl rfl) rfl rfl (fun cs _ hcs => by rw [List.getElem_map, getElem_geti hx2] at hcs; obtain rfl := opnKeysEntryInt hcs; exact clsKeysEntryInt ({ x2 with v := a2 } : KeysEntryInt)) ?_
  intro s4 st4 hwo0_0
  rw [← List.map_set] at hwo0_0
  have szs4 := st4.size
  have hS := hS.c0 st4
  replace hb_o0 := hb_o0.up2 st4
  refine k_nil ?_
  refine k_keep [(0, _), (1, _), (2, _), (6, _), (7, _)] ⟨rfl, rfl, rfl, rfl, rfl, trivial⟩ ?_
  refine k_seq ?_
  refine k_region ?_
  refine k_assign rfl rfl ?_
  refine k_nil ?_
  refine k_ret ?_
  obtain rfl := Option.some.inj h
  refine ⟨_, rfl, Ret.mk hS ?_⟩
  exact ⟨rfl, (OKeysIndexInt.mk_ (⟨a0.l.set (x1.1 : Int).toNat ({ x2 with v := a2 } : KeysEntryInt)⟩ : KeysIndexInt) (by omega) hwo0_0 hb_o0)⟩
 ·
  have h := ibF h c2
  refine k_skip ?_
  refine k_seq ?_
  refine k_region ?_
  refine k_move rfl rfl ?_
  refine k_move rfl rfl ?_
  refine k_nilCheck rfl rfl ?_
  refine k_field_addr fld64_0 rfl rfl ?_
  refine k_load_blk one62 rfl hb_o0 rfl rfl ?_
  refine k_move rfl rfl ?_
  refine k_move rfl rfl ?_
  refine k_move rfl rfl ?_
  refine k_build plc67 zero67 rfl (Parts.cons (CellsOf.lit rfl rfl).1 (Parts.cons (CellsOf.lit rfl rfl).1 Parts.nil)) (by rfl) rfl ?_
  refine k_as (v := .agg #[S a1, .int .i64 a2]) rfl ?_
  refine k_bslice2 (ds := ([(⟨a1, a2⟩ : KeysEntryInt)] : List KeysEntryInt).map dKeysEntryInt) slc62 rfl (RVs.cons ⟨_, rfl, (clsKeysEntryInt (⟨a1, a2⟩ : KeysEntryInt))⟩ RVs.nil) (by rfl) (by rfl) rfl rfl ?_
  intro s5 v5 b5 st5 ge5 bl5 h5
  have szs5 := st5.size
  have hS := hS.trans0 st5
  replace hwo0_0 := hwo0_0.up2 st5
  replace hb_o0 := hb_o0.up2 st5
  have lt5 := Own.le1 h5
  obtain ⟨x3, hx3, h⟩ := ob h
  refine k_call cal30 rfl (insert_i hwo0_0 h5 (by first | omega | (dsimp only; omega)) hx3) rfl ?_
  rintro s6 v6 st6 h6
  have szs6 := st6.size
  have hS := hS.c0 st6
  replace hb_o0 := hb_o0.up2 st6
  refine k_nilCheck rfl rfl ?_
  refine k_field_addr fld64_0 rfl rfl ?_
  refine k_store_c (cs' := [v6]) size62 rfl rfl hb_o0 (by first | (simp; done) | omega | (dsimp only; omega)) (CellsOf.sl (h6.sl)) rfl (by first | rfl | (simp; done) | (simp; omega)) rfl ?_
  intro s7 st7 hb_o0
  have szs7 := st7.size
  have hS := hS.c0 st7
  replace h6 := h6.up2 st7
  refine k_nil ?_
  refine k_keep [(6, _)] ⟨rfl, trivial⟩ ?_
  refine k_seq ?_
  refine k_region ?_
  refine k_assign rfl rfl ?_
  refine k_nil ?_
  refine k_ret ?_
  obtain rfl := Option.some.inj h
  refine ⟨_, rfl, Ret.mk hS ?_⟩
  exact ⟨rfl, (OKeysIndexInt.mk_ (⟨x3⟩ : KeysIndexInt) (by omega) h6 hb_o0)⟩

set_option maxHeartbeats 1000000 in
set_option maxRecDepth 100000 in
theorem slices_Clone_keys_entry_int_keys_entry_int_w {s : St} {l0 : Lab} {v0 : Value} {a0 : (List KeysEntryInt)} {r : (List KeysEntryInt)} (hp0 : SL s l0 v0 2 (a0.map dKeysEntryInt)) (h : slices_Clone_keys_entry_int_keys_entry_int a0 = some r) : Calls Tryd.prog 32 #[v0] s.w (Ret s K0 (fun s1 v => ∃ (u0 : Value), v = u0 ∧ R s1 u0 (.sl 2 (r.map dKeysEntryInt)))) := by
 unfold slices_Clone_keys_entry_int_keys_entry_int at h
 obtain ⟨lf0, lf0le, lf0ne, hp0⟩ := hp0.fix
 have hS := Step.r0 K0 s
 refine k_fn (rs := [2]) (args := [v0]) Tryd.func32 rfl rfl rfl rfl ?_
 refine k_seq ?_
 refine k_region ?_
 refine k_assign rfl rfl ?_
 refine k_nil ?_
 refine k_seq ?_
 refine k_seq ?_
 refine k_region ?_
 refine k_move rfl rfl ?_
 refine k_eql_snilv Tryd.underlying62 rfl rfl hp0 rfl ?_
 refine k_nil ?_
 refine k_keep [(0, _), (2, _), (4, _)] ⟨rfl, rfl, rfl, trivial⟩ ?_
 refine k_cond rfl (fun c1 => ?_) (fun c1 => ?_)
 ·
  have hz5 := SL.nilS_nil hp0 c1
  obtain rfl : a0 = [] := by simpa using hz5
  replace h : some ([]) = some r := by simpa [app] using h
  refine k_seq ?_
  refine k_region ?_
  refine k_assign rfl rfl ?_
  refine k_nil ?_
  refine k_keep [(0, _), (2, _)] ⟨rfl, rfl, trivial⟩ ?_
  refine k_ret ?_
  obtain rfl := Option.some.inj h
  refine ⟨_, rfl, Ret.mk hS ?_⟩
  exact ⟨_, rfl, (R.of_SL (.inl ⟨rfl, none, 0, rfl, fun _ => rfl⟩))⟩
 ·
  refine k_skip ?_
  refine k_seq ?_
  refine k_region ?_
  refine k_bslice2 (ds := ([] : List KeysEntryInt).map dKeysEntryInt) slc62 rfl RVs.nil (by rfl) (by rfl) rfl rfl ?_
  intro s2 v2 b2 st2 ge2 bl2 h2
  have szs2 := st2.size
  have hS := hS.trans0 st2
  replace hp0 := hp0.up2 st2
  have lt2 := Own.le1 h2
  refine k_move rfl rfl ?_
  obtain ⟨x1, hx1, h⟩ := ob h
  refine k_append (es := a0.map dKeysEntryInt) elem62 rfl rfl h2 hp0 (by have := (app_out hx1).1; simp only [List.length_map] at *; omega) (by have := (app_out hx1).1; simp only [List.length_map] at *; omega) rfl ?_
  intro s3 v3 st3 h3
  rw [← List.map_append, ← (app_out hx1).2] at h3
  have szs3 := st3.size
  have hS := hS.c0 st3
  refine k_assign rfl rfl ?_
  refine k_nil ?_
  refine k_keep [(2, _)] ⟨rfl, trivial⟩ ?_
  refine k_ret ?_
  obtain ⟨s4, e4, st4, h4⟩ := h3.freeze
  rw [← e4]
  have szs4 := st4.size
  have hS := hS.c0 st4
  obtain rfl := Option.some.inj h
  refine ⟨_, rfl, Ret.mk hS ?_⟩
  exact ⟨_, rfl, h4⟩

set_option maxHeartbeats 1000000 in
set_option maxRecDepth 100000 in
theorem keys_Index_int_Scan_w {s : St} {k0 : Nat} {p0 : Value} {a0 : KeysIndexInt} {a1 : (List UInt8)} {a2 : (List UInt8)} {r : ((List UInt8) × (List UInt8))} (ho0 : OKeysIndexInt s k0 p0 a0) (h : keys_Index_int_Scan a0 a1 a2 = some r) : Calls Tryd.prog 21 #[p0, S a1, S a2] s.w (Ret s K0 (fun s1 v => ∃ (ub0_0 : Nat), ∃ (ub0_1 : Nat), ∃ (ub0_2 : Nat), v = .func (.func 39) #[] #[.pointer (some ⟨ub0_0, 0, none⟩), .pointer (some ⟨ub0_1, 0, none⟩), .pointer (some ⟨ub0_2, 0, none⟩)] ∧ s.n ≤ ub0_0 ∧ Blk s1 ub0_0 ⟨ub0_0 + 1, 0⟩ [p0] 26 ∧ s.n ≤ ub0_1 ∧ BoxR s1 ub0_1 9 (dS r.1) ∧ s.n ≤ ub0_2 ∧ BoxR s1 ub0_2 9 (dS r.2))) := by
 unfold keys_Index_int_Scan at h
 have le0 := ho0.le
 have ne0 := ho0.ne
 have hS := Step.r0 K0 s
 refine k_fn (rs := [6]) (args := [p0, S a1, S a2]) Tryd.func21 rfl rfl rfl rfl ?_
 refine k_seq ?_
 refine k_region ?_
 obtain ⟨pb1, rfl⟩ := ho0.ptr
 refine k_box rfl rfl ?_
 intro s2 b2 st2 h2 ge2
 have szs2 := st2.size
 have hS := hS.trans0 st2
 have lt2 := h2.lt
 refine k_box rfl rfl ?_
 intro s3 b3 st3 h3 ge3
 have szs3 := st3.size
 have hS := hS.trans0 st3
 replace h2 := h2.up2 st3
 have lt3 := h3.lt
 refine k_box rfl rfl ?_
 intro s4 b4 st4 h4 ge4
 have szs4 := st4.size
 have hS := hS.trans0 st4
 replace h2 := h2.up2 st4
 replace h3 := h3.up2 st4
 have lt4 := h4.lt
 refine k_assign rfl rfl ?_
 refine k_nil ?_
 refine k_keep [(3, _), (4, _), (5, _), (6, _)] ⟨rfl, rfl, rfl, rfl, trivial⟩ ?_
 refine k_seq ?_
 refine k_region ?_
 refine k_makeFunc rfl rfl rfl ?_
 refine k_assign rfl rfl ?_
 refine k_nil ?_
 refine k_keep [(6, _)] ⟨rfl, trivial⟩ ?_
 refine k_ret ?_
 obtain rfl := Option.some.inj h
 refine ⟨_, rfl, Ret.mk hS ?_⟩
 exact ⟨_, _, _, rfl, (by omega), h2, (by omega), ⟨_, h3, RC.val _ rfl⟩, (by omega), ⟨_, h4, RC.val _ rfl⟩⟩

set_option maxHeartbeats 1000000 in
set_option maxRecDepth 100000 in
theorem keys_Index_int_Scan_1_w {s : St} {l : Nat} {XT : Type} {a0 : XT → ((List UInt8) × Int) → Option (Bool × XT)} {I : XT → St → Prop} {Ky : Lab → Prop} {a50 : XT} {ub1 : Nat} {k1 : Nat} {p1 : Value} {a1 : KeysIndexInt} {ub2 : Nat} {a2 : (List UInt8)} {ub3 : Nat} {a3 : (List UInt8)} {r : XT} (hY : Yielder Tryd.prog s.n l (fun (sl : St) (y : (List UInt8) × Int) (vs : List Value) => vs = [S y.1, .int .i64 y.2]) a0 I Ky) (hI : I a50 s) (hp1 : Blk s ub1 ⟨ub1 + 1, 0⟩ [p1] 26) (ho1 : OKeysIndexInt s k1 p1 a1) (hp2 : BoxR s ub2 9 (dS a2)) (hky2 : ¬ Ky ⟨ub2 + 1, 0⟩) (hp3 : BoxR s ub3 9 (dS a3)) (hky3 : ¬ Ky ⟨ub3 + 1, 0⟩) (h : keys_Index_int_Scan_1 a0 a50 a1 a2 a3 = some r) : Calls Tryd.prog 39 #[.func (.yield l) #[] #[], .pointer (some ⟨ub1, 0, none⟩), .pointer (some ⟨ub2, 0, none⟩), .pointer (some ⟨ub3, 0, none⟩)] s.w (Ret s (KB s.n Ky) (fun s1 v => v = .tuple #[] ∧ I r s1)) := by
 unfold keys_Index_int_Scan_1 at h
 replace hI := Cons.of hY hI (Nat.le_refl _)
 obtain ⟨pb1, rfl⟩ := ho1.ptr
 have le1 := ho1.le
 have ne1 := ho1.ne
 have lt1 := hp1.lt
 obtain ⟨cs2, hb_b2, hp2⟩ := hp2
 obtain rfl := hp2.val_inv
 have lt2 := hb_b2.lt
 obtain ⟨cs3, hb_b3, hp3⟩ := hp3
 obtain rfl := hp3.val_inv
 have lt3 := hb_b3.lt
 have hS := Step.r0 (KB s.n Ky) s
 refine k_fn (rs := []) (args := [.func (.yield l) #[] #[], .pointer (some ⟨ub1, 0, none⟩), .pointer (some ⟨ub2, 0, none⟩), .pointer (some ⟨ub3, 0, none⟩)]) Tryd.func39 rfl rfl rfl rfl ?_
 refine k_seq ?_
 refine k_region ?_
 refine k_load_blk one26 rfl hp1 rfl rfl ?_
 refine k_load_blk one9 rfl hb_b2 rfl rfl ?_
 obtain ⟨x1, hx1, h⟩ := ob h
 refine k_call cal29 rfl (keys_Index_int_place_w  ho1 hx1) rfl ?_
 rintro s4 vr4 st4 rfl
 have szs4 := st4.size
 have hS := hS.trans0 st4
 replace hI := hI.up2 st4
 replace ho1 := ho1.up2 st4
 replace hp1 := hp1.up2 st4
 replace hb_b3 := hb_b3.up2 st4
 refine k_move rfl rfl ?_
 refine k_extract rfl rfl rfl ?_
 refine k_extract rfl rfl rfl ?_
 refine k_assign rfl rfl ?_
 refine k_assign rfl rfl ?_
 refine k_nil ?_
 refine k_keep [(0, _), (1, _), (3, _), (5, _)] ⟨rfl, rfl, rfl, rfl, trivial⟩ ?_
 refine k_seq ?_
 refine k_region ?_
 refine k_load_blk one26 rfl hp1 rfl rfl ?_
 obtain ⟨x2, hx2, h⟩ := ob h
 refine k_call cal28 rfl (keys_Index_int_Len_w  ho1 hx2) rfl ?_
 rintro s5 vr5 st5 rfl
 have szs5 := st5.size
 have hS := hS.trans0 st5
 replace hI := hI.up2 st5
 replace ho1 := ho1.up2 st5
 replace hp1 := hp1.up2 st5
 replace hb_b3 := hb_b3.up2 st5
 refine k_assign rfl rfl ?_
 refine k_nil ?_
 refine k_keep [(0, _), (1, _), (3, _), (5, _), (7, _)] ⟨rfl, rfl, rfl, rfl, rfl, trivial⟩ ?_
 refine k_seq ?_
 obtain ⟨kj3, hK6, h⟩ := jn_out h
 have hE6 := Step.r0 K0 s5
 refine k_cutc (X := St × Int) [(0, .func (.yield l) #[] #[]), (1, .pointer (some ⟨ub1, 0, none⟩)), (5, .int .i64 x1.1)] (fun (xL : St × Int) => match xL with | (sl, x4) => [(7, .int .i64 x4)]) (fun (xL : St × Int) (wL : World) => match xL with | (sl, x4) => sl.w = wL ∧ Step K0 s5 sl ∧ kj3 x4 = some r) ?_ ?_
 ·
  refine k_seq ?_
  refine k_region ?_
  refine k_load_blk one9 rfl hb_b3 rfl rfl ?_
  refine k_neq_str rfl rfl rfl ?_
  refine k_nil ?_
  refine k_keep [(0, _), (1, _), (3, _), (5, _), (7, _), (19, _)] ⟨rfl, rfl, rfl, rfl, rfl, rfl, trivial⟩ ?_
  refine k_cond_dec rfl (fun c7 => ?_) (fun c7 => ?_)
  ·
   have h := itT h c7
   refine k_region ?_
   refine k_load_blk one26 rfl hp1 rfl rfl ?_
   refine k_load_blk one9 rfl hb_b3 rfl rfl ?_
   obtain ⟨x5, hx5, h⟩ := ob h
   refine k_call cal29 rfl (keys_Index_int_place_w  ho1 hx5) rfl ?_
   rintro s8 vr8 st8 rfl
   have szs8 := st8.size
   have hS := hS.trans0 st8
   have hE6 := hE6.trans0 st8
   refine k_move rfl rfl ?_
   refine k_extract rfl rfl rfl ?_
   refine k_extract rfl rfl rfl ?_
   refine k_assign rfl rfl ?_
   refine k_nil ?_
   exact k_stop ⟨(s8, x5.1), ⟨(by first | rfl | (simp <;> rfl)), trivial⟩, ⟨rfl, rfl, rfl, trivial⟩, ⟨rfl, hE6, h⟩⟩
  ·
   have h := itF h c7
   refine k_skip ?_
   exact k_stop ⟨(s5, x2), ⟨(by first | rfl | (simp <;> rfl)), trivial⟩, ⟨rfl, rfl, rfl, trivial⟩, ⟨rfl, hE6, h⟩⟩
 ·
  rintro ⟨s9, x4⟩ wL ⟨rfl, hE6, h⟩
  rw [hK6] at h
  have szs9 := hE6.size
  have hS := hS.trans0 hE6
  replace hI := hI.up2 hE6
  replace ho1 := ho1.up2 hE6
  replace hp1 := hp1.up2 hE6
  refine k_seq ?_
  refine k_region ?_
  refine k_load_blk one26 rfl hp1 rfl rfl ?_
  obtain ⟨x6, hx6, h⟩ := ob h
  refine k_call cal33 rfl (keys_Index_int_rows_w  ho1 hx6) rfl ?_
  rintro s10 v10_0 st10 ⟨_, rfl, h10_0⟩
  have szs10 := st10.size
  have hS := hS.trans0 st10
  replace hI := hI.up2 st10
  refine k_move rfl rfl ?_
  refine k_move rfl rfl ?_
  refine k_min2 rfl rfl rfl ?_
  refine k_move rfl rfl ?_
  obtain ⟨x7, hx7, h⟩ := ob h
  refine k_cut_sl (i := (min x1.1 x4 : Int).toNat) (j := (x4 : Int).toNat) Tryd.underlying62 size67 rfl h10_0 (CutAt.int rfl (subl_out hx7).1) (CutAt.int rfl (Int.le_trans (subl_out hx7).1 (subl_out hx7).2.1)) (subl_ij hx7) (by rw [List.length_map]; exact subl_j hx7) rfl ?_
  intro vx7 hcx7
  rw [← List.map_drop, ← List.map_take, ← (subl_out hx7).2.2.2] at hcx7
  obtain ⟨x8, hx8, h⟩ := ob h
  refine k_call cal32 rfl (slices_Clone_keys_entry_int_keys_entry_int_w  hcx7 hx8) rfl ?_
  rintro s11 v11_0 st11 ⟨_, rfl, h11_0⟩
  have szs11 := st11.size
  have hS := hS.trans0 st11
  replace hI := hI.up2 st11
  refine k_len Tryd.underlying62 rfl (SL.of_R h11_0).hasLen rfl ?_
  refine k_as (v := .int .i64 (x8.length : Int)) (by simp only [List.length_map]) ?_
  refine k_move rfl rfl ?_
  refine k_nil ?_
  refine k_keep [(0, _), (33, _), (34, _), (35, _)] ⟨rfl, rfl, rfl, rfl, trivial⟩ ?_
  refine k_block ?_
  refine k_loopc (X := St × Int × XT × Nat) [(0, _), (33, _), (34, _)] (fun (xL : St × Int × XT × Nat) => match xL with | (sl, x9, x10, j) => [(35, .int .i64 x9)]) (fun (xL : St × Int × XT × Nat) (wL : World) => match xL with | (sl, x9, x10, j) => sl.w = wL ∧ Step (KB s.n Ky) s11 sl ∧ (Cons I s.n sl x10) ∧ keys_Index_int_Scan_1_l1 x8 a0 j x9 x10 = some r) (fun (xL : St × Int × XT × Nat) => match xL with | (sl, x9, x10, j) => j) (s11, 0, a50, FU) ⟨rfl, rfl, rfl, trivial⟩ ⟨(by first | rfl | (simp <;> rfl)), trivial⟩ ⟨rfl, (Step.refl _).of0 (by first | exact fun _ h => h | (intro c h; simp [KC, KO, KU, KN, KB] at h <;> omega)), hI, h⟩ ?_
  rintro ⟨s13, x9, x10, j⟩ wL ⟨rfl, hE12, hI, h⟩
  cases j with
  | zero => rw [keys_Index_int_Scan_1_l1] at h; exact (noneNe h).elim
  | succ j =>
  rw [keys_Index_int_Scan_1_l1] at h
  have szs13 := hE12.size
  have hS : Step (KB s.n Ky) s s13 := hS.comp hE12 (by intro l hl hk; (try simp only [KC, KO, KU, KN, K0, KB] at hk ⊢); (repeat' (refine Or.elim hk (fun hk => ?_) (fun hk => ?_))) <;> first | exact hk | exact .inl hk | exact .inr hk | exact .inr (.inl hk) | exact .inr (.inr hk) | omega)
  replace h11_0 := h11_0.up2 hE12
  refine k_seq ?_
  refine k_region ?_
  refine k_lss rfl rfl rfl ?_
  refine k_nil ?_
  refine k_seq ?_
  refine k_cond_dec rfl (fun c14 => ?_) (fun c14 => ?_)
  ·
   have h := itT h c14
   refine k_skip ?_
   refine k_seq ?_
   refine k_block ?_
   refine k_seq ?_
   refine k_region ?_
   obtain ⟨x11, hx11, h⟩ := ob h
   refine k_ixaddr Tryd.underlying62 size67 rfl rfl (SL.of_R h11_0) (geti_out hx11).1 (geti_map hx11) rfl ?_
   intro qx11 hqx11
   refine k_load_agg (by exact agg67) rfl hqx11 rfl ?_
   intro cs15 h15
   obtain rfl := opnKeysEntryInt h15
   refine k_alloc zero67 rfl ?_
   intro s16 b16 st16 h16 ge16
   have szs16 := st16.size
   have hS := hS.trans0 st16
   have hE12 := hE12.trans0 st16
   replace hI := hI.up2 st16
   have lt16 := h16.lt
   refine k_store_c (cs' := [S x11.key_, .int .i64 x11.v]) size67 rfl rfl h16 (by first | (simp; done) | omega | (dsimp only; omega)) (CellsOf.lit rfl rfl) rfl (by first | rfl | (simp; done) | (simp; omega)) rfl ?_
   intro s17 st17 h16
   have szs17 := st17.size
   have hS : Step (KB s.n Ky) s s17 := hS.comp st17 (by intro l hl hk; (try simp only [KC, KO, KU, KN, K0, KB] at hk ⊢); (repeat' (refine Or.elim hk (fun hk => ?_) (fun hk => ?_))) <;> first | exact hk | exact .inl hk | exact .inr hk | exact .inr (.inl hk) | exact .inr (.inr hk) | omega)
   have hE12 : Step (KB s.n Ky) s11 s17 := hE12.comp st17 (by intro l hl hk; (try simp only [KC, KO, KU, KN, K0, KB] at hk ⊢); (repeat' (refine Or.elim hk (fun hk => ?_) (fun hk => ?_))) <;> first | exact hk | exact .inl hk | exact .inr hk | exact .inr (.inl hk) | exact .inr (.inr hk) | omega)
   replace hI := hI.up2 st17
   refine k_nil ?_
   refine k_keep [(0, _), (9, _), (33, _), (34, _), (35, _)] ⟨rfl, rfl, rfl, rfl, rfl, trivial⟩ ?_
   refine k_seq ?_
   refine k_region ?_
   refine k_move rfl rfl ?_
   refine k_field_addr fld67_0 rfl rfl ?_
   refine k_load_blk one9 rfl h16 rfl rfl ?_
   refine k_field_addr fld67_1 rfl rfl ?_
   refine k_load_blk one3 rfl h16 rfl rfl ?_
   obtain ⟨x12, hx12, h⟩ := ob h
   refine k_yield rfl rfl (hY.yield _ _ _ _ _ hI.2.1 hI.1 rfl hx12) rfl ?_
   rintro s18 _ st18 ⟨rfl, hI⟩
   replace hI := Cons.of hY hI (Nat.le_trans (by omega) st18.size)
   have szs18 := st18.size
   have hS : Step (KB s.n Ky) s s18 := hS.comp st18 (by intro l hl hk; (try simp only [KC, KO, KU, KN, K0, KB] at hk ⊢); (repeat' (refine Or.elim hk (fun hk => ?_) (fun hk => ?_))) <;> first | exact hk | exact .inl hk | exact .inr hk | exact .inr (.inl hk) | exact .inr (.inr hk) | omega)
   have hE12 : Step (KB s.n Ky) s11 s18 := hE12.comp st18 (by intro l hl hk; (try simp only [KC, KO, KU, KN, K0, KB] at hk ⊢); (repeat' (refine Or.elim hk (fun hk => ?_) (fun hk => ?_))) <;> first | exact hk | exact .inl hk | exact .inr hk | exact .inr (.inl hk) | exact .inr (.inr hk) | omega)
   refine k_not rfl rfl ?_
   refine k_nil ?_
   refine k_keep [(0, _), (33, _), (34, _), (35, _), (45, _)] ⟨rfl, rfl, rfl, rfl, rfl, trivial⟩ ?_
   refine k_cond rfl (fun c19 => ?_) (fun c19 => ?_)
   ·
    have h := ibT h c19
    refine k_ret ?_
    obtain rfl := Option.some.inj h
    refine ⟨_, rfl, Ret.mk hS ?_⟩
    exact ⟨rfl, hI.1⟩
   ·
    have h := ibF h c19
    refine k_skip ?_
    refine k_blk ?_
    refine k_region ?_
    refine k_add rfl rfl rfl ?_
    refine k_move rfl rfl ?_
    refine k_nil ?_
    exact k_stop ⟨(s18, i64 (x9 + 1), x12.2, j), ⟨(by first | rfl | (simp <;> rfl)), trivial⟩, ⟨rfl, rfl, rfl, trivial⟩, ⟨rfl, hE12, hI, h⟩, (by simp)⟩
  ·
   have h := itF h c14
   refine k_exit rfl ?_
   refine k_end ?_
   obtain rfl := Option.some.inj h
   refine ⟨_, rfl, Ret.mk hS ?_⟩
   exact ⟨rfl, hI.1⟩

set_option maxHeartbeats 1000000 in
set_option maxRecDepth 100000 in
theorem keys_Index_int_Keys_w {s : St} {k0 : Nat} {p0 : Value} {a0 : KeysIndexInt} {r : (List (List UInt8))} (ho0 : OKeysIndexInt s k0 p0 a0) (h : keys_Index_int_Keys a0 = some r) : Calls Tryd.prog 24 #[p0] s.w (Ret s K0 (fun s1 v => ∃ (u0 : Value), v = u0 ∧ R s1 u0 (.sl 1 (r.map dS)))) := by
 unfold keys_Index_int_Keys at h
 have le0 := ho0.le
 have ne0 := ho0.ne
 have hS := Step.r0 K0 s
 refine k_fn_m (args := [p0]) Tryd.func24 rfl rfl ?_
 refine rk_seq ?_
 refine rk_run ?_
 refine k_region ?_
 refine k_assign rfl rfl ?_
 refine k_nil ?_
 refine k_stop ?_
 refine rk_seq ?_
 refine rk_run ?_
 refine k_region ?_
 refine k_alloc zero53 rfl ?_
 intro s1 b1 st1 h1 ge1
 have szs1 := st1.size
 have hS := hS.trans0 st1
 replace ho0 := ho0.up2 st1
 have lt1 := h1.lt
 refine k_nil ?_
 refine k_stop ?_
 refine rk_seq ?_
 refine rk_seq ?_
 refine rk_run ?_
 refine k_region ?_
 refine k_move rfl rfl ?_
 obtain ⟨x1, hx1, h⟩ := ob h
 refine k_call cal21 rfl (keys_Index_int_Scan_w  ho0 hx1) rfl ?_
 rintro s2 vr2 st2 ⟨ub2_0_0, ub2_0_1, ub2_0_2, rfl, hg2_0_0, h2_0_0, hg2_0_1, h2_0_1, hg2_0_2, h2_0_2⟩
 have szs2 := st2.size
 have hS := hS.trans0 st2
 replace ho0 := ho0.up2 st2
 replace h1 := h1.up2 st2
 refine k_nil ?_
 refine k_stop ?_
 have h4 : Own s2 ⟨b1 + 1, 7⟩ 9 1 (.slice none 0 0) (([] : List (List UInt8)).map dS) := Own.nil (by first | (simp; done) | omega | (dsimp only; omega)) (by first | (simp; done) | omega | (dsimp only; omega))
 obtain ⟨x5, hx5, h⟩ := ob h
 refine rk_range (A := ((List UInt8) × Int)) (X := (List (List UInt8))) (ps := [7, 8]) (fun (sl : St) (y : (List UInt8) × Int) (vs : List Value) => vs = [S y.1, .int .i64 y.2]) (fun (x2 : (List (List UInt8))) (x3 : ((List UInt8) × Int)) => (app 8796093022208 x2 ([x3.1] : List (List UInt8))).bind fun x6 => some (true, x6)) (fun (xL : (List (List UInt8))) (sl : St) => ∃ v5 : Value, (Own sl ⟨b1 + 1, 7⟩ 9 1 v5 (xL.map dS)) ∧ (Blk sl b1 ⟨b1 + 1, 0⟩ [v5] 53) ∧ (OKeysIndexInt sl k0 p0 a0)) (KU (KC (b1 + 1) 7) (KC (b1 + 1) 0)) rfl cal39 (fun _ _ _ h => by obtain rfl := h; rfl) (by decide) (by intro lab h; (try simp only [KC, KO, KU, KN, K0, KB] at h); first | exact h.elim | omega) ([]) x5 ⟨(.slice none 0 0), h4, h1, ho0⟩ (by rintro x t1 t2 K ⟨v5, z0, z1, z2⟩ st hK; exact ⟨v5, z0.up st (fun hk => by have hq := hK _ hk; (try dsimp only at hq); omega), z1.up st (fun hk => by have hq := hK _ hk; (try dsimp only at hq); omega), OKeysIndexInt.up2 z2 st (fun _ hk => by have hq := hK _ hk; (try dsimp only at hq); omega)⟩) ?_ ?_ ?_
 ·
  intro l rec sR3 x2 x3 vsR rR3 hl1 hl2 hrec
  rintro ⟨v5, h5, h1, ho0⟩ hL henc hc3
  obtain rfl := henc
  try dsimp only at hc3
  have hRS3 := Step.r0 (KU (KC (l + 1) 0) (KU (KC (b1 + 1) 7) (KC (b1 + 1) 0))) sR3
  refine k_region ?_
  refine k_assign rfl rfl ?_
  refine k_nil ?_
  refine k_stop ?_
  refine k_begin hL hrec ?_
  intro s6 st6 hL
  have szs6 := st6.size
  have hRS3 := hRS3.c0 st6
  replace ho0 := ho0.up2 st6
  replace h1 := h1.up2 st6
  replace h5 := h5.up2 st6
  refine k_keep [(3, _), (4, _)] ⟨rfl, rfl, trivial⟩ ?_
  refine k_block ?_
  refine k_region ?_
  refine k_load_blk one53 rfl h1 rfl rfl ?_
  refine k_move rfl rfl ?_
  refine k_bslice2 (ds := ([x3.1] : List (List UInt8)).map dS) slc53 rfl (RVs.cons (R.val rfl) RVs.nil) (by rfl) (by rfl) rfl rfl ?_
  intro s7 v7 b7 st7 ge7 bl7 h7
  have szs7 := st7.size
  have hRS3 := hRS3.trans0 st7
  replace ho0 := ho0.up2 st7
  replace h1 := h1.up2 st7
  replace h5 := h5.up2 st7
  replace hL := hL.up2 st7
  have lt7 := Own.le1 h7
  obtain ⟨x6, hx6, hc3⟩ := ob hc3
  refine k_append (es := ([x3.1] : List (List UInt8)).map dS) elem53 rfl rfl h5 (h7.sl) (by have := (app_out hx6).1; simp only [List.length_map] at *; omega) (by have := (app_out hx6).1; simp only [List.length_map] at *; omega) rfl ?_
  intro s8 v8 st8 h8
  rw [← List.map_append, ← (app_out hx6).2] at h8
  have szs8 := st8.size
  have hRS3 := hRS3.c0 st8
  replace ho0 := ho0.up2 st8
  replace h1 := h1.up2 st8
  replace hL := hL.up2 st8
  refine k_store_c (cs' := [v8]) size53 rfl rfl h1 (by first | (simp; done) | omega | (dsimp only; omega)) (CellsOf.sl (h8.sl)) rfl (by first | rfl | (simp; done) | (simp; omega)) rfl ?_
  intro s9 st9 h1
  have szs9 := st9.size
  have hRS3 := hRS3.c0 st9
  replace ho0 := ho0.up2 st9
  replace h8 := h8.up2 st9
  replace hL := hL.up2 st9
  refine k_nil ?_
  refine k_blk ?_
  refine k_end ?_
  obtain rfl := Option.some.inj hc3
  exact ⟨rfl, s9, rfl, hRS3, hL, ⟨v8, h8, h1, ho0⟩⟩
 ·
  intro l t1 I' Ky st hl1 hl2 hK1 hK2 hY hI'
  have ltb_ub2_0_0 := h2_0_0.lt
  have ltb_ub2_0_1 := h2_0_1.lt
  have ltb_ub2_0_2 := h2_0_2.lt
  exact keys_Index_int_Scan_1_w hY hI' (h2_0_0.up2 st) (ho0.up2 st) (h2_0_1.up2 st) (fun h => by rcases hK2 _ h with h | h <;> (simp only [KU, KN, KC, KO, K0, KB, Lab.mk.injEq] at h) <;> omega) (h2_0_2.up2 st) (fun h => by rcases hK2 _ h with h | h <;> (simp only [KU, KN, KC, KO, K0, KB, Lab.mk.injEq] at h) <;> omega) hx5
 ·
  intro D3 s10 stn3
  rintro ⟨v5, h5, h1, ho0⟩ hM3 hD3
  have szs10 := stn3.size
  have hS := hS.c0 stn3
  refine rk_last ?_
  refine k_seq ?_
  refine k_region ?_
  refine k_load_blk one53 rfl h1 rfl rfl ?_
  refine k_assign rfl rfl ?_
  refine k_nil ?_
  refine k_keep [(2, _)] ⟨rfl, trivial⟩ ?_
  refine k_ret ?_
  refine re_ret ?_
  refine re_cons hM3 (fun s11 st11 => ?_)
  have szs11 := st11.size
  have hS := hS.c0 st11
  replace h5 := h5.up2 st11
  obtain ⟨s12, e12, st12, h12⟩ := h5.freeze
  rw [← e12]
  have szs12 := st12.size
  have hS := hS.c0 st12
  obtain rfl := Option.some.inj h
  refine re_nil (rs := [2]) rfl rfl ?_
  refine ⟨_, rfl, Ret.mk hS ?_⟩
  exact ⟨_, rfl, h12⟩

set_option maxHeartbeats 1000000 in
set_option maxRecDepth 100000 in
theorem law12_row_c39_w {s : St} {ub0_0 : Nat} {k0_0 : Nat} {p0_0 : Value} {a0_0 : KeysIndexInt} {ub0_1 : Nat} {a0_1 : (List UInt8)} {ub0_2 : Nat} {a0_2 : (List UInt8)} {a1 : Int} {r : (List Ref12Entry)} (hp0_0 : Blk s ub0_0 ⟨ub0_0 + 1, 0⟩ [p0_0] 26) (ho0_0 : OKeysIndexInt s k0_0 p0_0 a0_0) (hp0_1 : BoxR s ub0_1 9 (dS a0_1)) (hp0_2 : BoxR s ub0_2 9 (dS a0_2)) (h : law12_row_c39 a0_0 a0_1 a0_2 a1 = some r) : Calls Tryd.prog 15 #[.func (.func 39) #[] #[.pointer (some ⟨ub0_0, 0, none⟩), .pointer (some ⟨ub0_1, 0, none⟩), .pointer (some ⟨ub0_2, 0, none⟩)], .int .i64 a1] s.w (Ret s K0 (fun s1 v => ∃ (u0 : Value), v = u0 ∧ R s1 u0 (.sl 2 (r.map dRef12Entry)))) := by
 unfold law12_row_c39 at h
 have lt0_0 := hp0_0.lt
 have le0_0 := ho0_0.le
 have ne0_0 := ho0_0.ne
 have lt0_1 := hp0_1.lt
 have lt0_2 := hp0_2.lt
 have hS := Step.r0 K0 s
 refine k_fn_m (args := [.func (.func 39) #[] #[.pointer (some ⟨ub0_0, 0, none⟩), .pointer (some ⟨ub0_1, 0, none⟩), .pointer (some ⟨ub0_2, 0, none⟩)], .int .i64 a1]) Tryd.func15 rfl rfl ?_
 refine rk_seq ?_
 refine rk_run ?_
 refine k_region ?_
 refine k_box rfl rfl ?_
 intro s1 b1 st1 h1 ge1
 have szs1 := st1.size
 have hS := hS.trans0 st1
 replace hp0_0 := hp0_0.up2 st1
 replace hp0_1 := hp0_1.up2 st1
 replace hp0_2 := hp0_2.up2 st1
 replace ho0_0 := ho0_0.up2 st1
 have lt1 := h1.lt
 refine k_assign rfl rfl ?_
 refine k_nil ?_
 refine k_stop ?_
 refine rk_seq ?_
 refine rk_run ?_
 refine k_region ?_
 refine k_alloc zero28 rfl ?_
 intro s2 b2 st2 h2 ge2
 have szs2 := st2.size
 have hS := hS.trans0 st2
 replace hp0_0 := hp0_0.up2 st2
 replace hp0_1 := hp0_1.up2 st2
 replace hp0_2 := hp0_2.up2 st2
 replace ho0_0 := ho0_0.up2 st2
 replace h1 := h1.up2 st2
 have lt2 := h2.lt
 refine k_nil ?_
 refine k_stop ?_
 refine rk_seq ?_
 refine rk_run ?_
 refine k_seq ?_
 refine k_region ?_
 refine k_move rfl rfl ?_
 refine k_eql_fnil Tryd.underlying38 rfl rfl rfl ?_
 refine k_nil ?_
 refine k_keep [(0, _), (3, _), (4, _), (5, _), (9, _)] ⟨rfl, rfl, rfl, rfl, rfl, trivial⟩ ?_
 refine k_cond_false rfl ?_
 refine k_skip ?_
 refine k_stop ?_
 refine rk_seq ?_
 refine rk_seq ?_
 refine rk_run ?_
 refine k_region ?_
 refine k_move rfl rfl ?_
 refine k_nil ?_
 refine k_stop ?_
 have h4 : Own s2 ⟨b2 + 1, 7⟩ 55 2 (.slice none 0 0) (([] : List Ref12Entry).map dRef12Entry) := Own.nil (by first | (simp; done) | omega | (dsimp only; omega)) (by first | (simp; done) | omega | (dsimp only; omega))
 obtain ⟨x4, hx4, h⟩ := ob h
 refine rk_range (A := ((List UInt8) × Int)) (X := (List Ref12Entry)) (ps := [12, 13]) (fun (sl : St) (y : (List UInt8) × Int) (vs : List Value) => vs = [S y.1, .int .i64 y.2]) (fun (x1 : (List Ref12Entry)) (x2 : ((List UInt8) × Int)) => if (0 ≤ a1) ∧ (a1 ≤ (x1.length : Int)) then some (false, x1) else (app 5864062014805 x1 ([(⟨x2.1, x2.2⟩ : Ref12Entry)] : List Ref12Entry)).bind fun x5 => some (true, x5)) (fun (xL : (List Ref12Entry)) (sl : St) => ∃ v5 : Value, (Own sl ⟨b2 + 1, 7⟩ 55 2 v5 (xL.map dRef12Entry)) ∧ (Blk sl b2 ⟨b2 + 1, 0⟩ [v5] 28) ∧ (OKeysIndexInt sl k0_0 p0_0 a0_0) ∧ (Blk sl b1 ⟨b1 + 1, 0⟩ [.int .i64 a1] 3)) (KU (KC (b2 + 1) 7) (KC (b2 + 1) 0)) rfl cal39 (fun _ _ _ h => by obtain rfl := h; rfl) (by decide) (by intro lab h; (try simp only [KC, KO, KU, KN, K0, KB] at h); first | exact h.elim | omega) ([]) x4 ⟨(.slice none 0 0), h4, h2, ho0_0, h1⟩ (by rintro x t1 t2 K ⟨v5, z0, z1, z2, z3⟩ st hK; exact ⟨v5, z0.up st (fun hk => by have hq := hK _ hk; (try dsimp only at hq); omega), z1.up st (fun hk => by have hq := hK _ hk; (try dsimp only at hq); omega), OKeysIndexInt.up2 z2 st (fun _ hk => by have hq := hK _ hk; (try dsimp only at hq); omega), z3.up st (fun hk => by have hq := hK _ hk; (try dsimp only at hq); omega)⟩) ?_ ?_ ?_
 ·
  intro l rec sR3 x1 x2 vsR rR3 hl1 hl2 hrec
  rintro ⟨v5, h5, h2, ho0_0, h1⟩ hL henc hc3
  obtain rfl := henc
  try dsimp only at hc3
  have hRS3 := Step.r0 (KU (KC (l + 1) 0) (KU (KC (b2 + 1) 7) (KC (b2 + 1) 0))) sR3
  refine k_seq ?_
  refine k_region ?_
  refine k_assign rfl rfl ?_
  refine k_nil ?_
  refine k_keep [(3, _), (5, _), (6, _), (13, _)] ⟨rfl, rfl, rfl, rfl, trivial⟩ ?_
  refine k_region ?_
  refine k_assign rfl rfl ?_
  refine k_nil ?_
  refine k_stop ?_
  refine k_begin hL hrec ?_
  intro s6 st6 hL
  have szs6 := st6.size
  have hRS3 := hRS3.c0 st6
  replace ho0_0 := ho0_0.up2 st6
  replace h1 := h1.up2 st6
  replace h2 := h2.up2 st6
  replace h5 := h5.up2 st6
  refine k_keep [(3, _), (5, _), (6, _), (7, _)] ⟨rfl, rfl, rfl, rfl, trivial⟩ ?_
  refine k_block ?_
  refine k_seq ?_
  refine k_seq ?_
  refine k_region ?_
  refine k_load_blk one3 rfl h1 rfl rfl ?_
  refine k_geq rfl rfl rfl ?_
  refine k_move rfl rfl ?_
  have hE7 := Step.r0 K0 s6
  refine k_cutl (X := St) 5 [(3, .pointer (some ⟨b1, 0, none⟩)), (5, .pointer (some ⟨b2, 0, none⟩)), (6, S x2.1), (7, .int .i64 x2.2), (14, .int .i64 a1), (15, .bool (decide (0 ≤ a1)))] (fun _ => [(21, .bool (decide ((0 ≤ a1) ∧ (a1 ≤ (x1.length : Int)))))]) (fun sl wL => sl.w = wL ∧ Step K0 s6 sl) ?_ ?_
  ·
   refine k_again 16 rfl ?_
   refine k_split (fun c8 => ?_) (fun c8 => ?_)
   ·
    refine k_yes rfl rfl ?_
    refine k_load_blk one28 rfl h2 rfl rfl ?_
    refine k_yes rfl rfl ?_
    refine k_len Tryd.underlying28 rfl (h5.sl).hasLen rfl ?_
    refine k_as (v := .int .i64 (x1.length : Int)) (by simp only [List.length_map]) ?_
    refine k_yes rfl rfl ?_
    refine k_load_blk one3 rfl h1 rfl rfl ?_
    refine k_yes rfl rfl ?_
    refine k_geq rfl rfl rfl ?_
    refine k_pickT rfl rfl rfl rfl ?_
    exact k_met ⟨s6, ⟨(congrArg (fun b => some (Value.bool b)) (by first | exact decide_eq_decide.2 ⟨fun h => ⟨c8, h⟩, fun h => h.2⟩ | exact (decide_eq_false (fun h => c8 h.1)).symm | (simp [c8]; done) | (simp [c8, i64] <;> omega))), trivial⟩, ⟨rfl, rfl, rfl, rfl, rfl, rfl, trivial⟩, rfl, hE7⟩
   ·
    refine k_no rfl rfl rfl rfl ?_
    refine k_no rfl rfl rfl rfl ?_
    refine k_no rfl rfl rfl rfl ?_
    refine k_no rfl rfl rfl rfl ?_
    refine k_pickF rfl rfl rfl rfl ?_
    exact k_met ⟨s6, ⟨(congrArg (fun b => some (Value.bool b)) (by first | exact decide_eq_decide.2 ⟨fun h => ⟨c8, h⟩, fun h => h.2⟩ | exact (decide_eq_false (fun h => c8 h.1)).symm | (simp [c8]; done) | (simp [c8, i64] <;> omega))), trivial⟩, ⟨rfl, rfl, rfl, rfl, rfl, rfl, trivial⟩, rfl, hE7⟩
  ·
   rintro s9 wL ⟨rfl, hE7⟩
   have szs9 := hE7.size
   have hRS3 := hRS3.trans0 hE7
   replace ho0_0 := ho0_0.up2 hE7
   replace h1 := h1.up2 hE7
   replace h2 := h2.up2 hE7
   replace h5 := h5.up2 hE7
   replace hL := hL.up2 hE7
   refine k_nil ?_
   refine k_keep [(5, _), (6, _), (7, _), (21, _)] ⟨rfl, rfl, rfl, rfl, trivial⟩ ?_
   refine k_cond_dec rfl (fun c10 => ?_) (fun c10 => ?_)
   ·
    have hc3 := itT hc3 c10
    refine k_exit_out ?_ rfl
    obtain rfl := Option.some.inj hc3
    exact ⟨rfl, rfl, s9, rfl, hRS3, hL, ⟨v5, h5, h2, ho0_0, h1⟩⟩
   ·
    have hc3 := itF hc3 c10
    refine k_skip ?_
    refine k_region ?_
    refine k_load_blk one28 rfl h2 rfl rfl ?_
    refine k_move rfl rfl ?_
    refine k_move rfl rfl ?_
    refine k_build plc55 zero55 rfl (Parts.cons (CellsOf.lit rfl rfl).1 (Parts.cons (CellsOf.lit rfl rfl).1 Parts.nil)) (by rfl) rfl ?_
    refine k_as (v := .agg #[S x2.1, .int .i64 x2.2]) rfl ?_
    refine k_bslice2 (ds := ([(⟨x2.1, x2.2⟩ : Ref12Entry)] : List Ref12Entry).map dRef12Entry) slc28 rfl (RVs.cons ⟨_, rfl, (clsRef12Entry (⟨x2.1, x2.2⟩ : Ref12Entry))⟩ RVs.nil) (by rfl) (by rfl) rfl rfl ?_
    intro s11 v11 b11 st11 ge11 bl11 h11
    have szs11 := st11.size
    have hRS3 := hRS3.trans0 st11
    replace ho0_0 := ho0_0.up2 st11
    replace h1 := h1.up2 st11
    replace h2 := h2.up2 st11
    replace h5 := h5.up2 st11
    replace hL := hL.up2 st11
    have lt11 := Own.le1 h11
    obtain ⟨x5, hx5, hc3⟩ := ob hc3
    refine k_append (es := ([(⟨x2.1, x2.2⟩ : Ref12Entry)] : List Ref12Entry).map dRef12Entry) elem28 rfl rfl h5 (h11.sl) (by have := (app_out hx5).1; simp only [List.length_map] at *; omega) (by have := (app_out hx5).1; simp only [List.length_map] at *; omega) rfl ?_
    intro s12 v12 st12 h12
    rw [← List.map_append, ← (app_out hx5).2] at h12
    have szs12 := st12.size
    have hRS3 := hRS3.c0 st12
    replace ho0_0 := ho0_0.up2 st12
    replace h1 := h1.up2 st12
    replace h2 := h2.up2 st12
    replace hL := hL.up2 st12
    refine k_store_c (cs' := [v12]) size28 rfl rfl h2 (by first | (simp; done) | omega | (dsimp only; omega)) (CellsOf.sl (h12.sl)) rfl (by first | rfl | (simp; done) | (simp; omega)) rfl ?_
    intro s13 st13 h2
    have szs13 := st13.size
    have hRS3 := hRS3.c0 st13
    replace ho0_0 := ho0_0.up2 st13
    replace h1 := h1.up2 st13
    replace h12 := h12.up2 st13
    replace hL := hL.up2 st13
    refine k_nil ?_
    refine k_blk ?_
    refine k_end ?_
    obtain rfl := Option.some.inj hc3
    exact ⟨rfl, s13, rfl, hRS3, hL, ⟨v12, h12, h2, ho0_0, h1⟩⟩
 ·
  intro l t1 I' Ky st hl1 hl2 hK1 hK2 hY hI'
  have ltb_ub0_0 := hp0_0.lt
  have ltb_ub0_1 := hp0_1.lt
  have ltb_ub0_2 := hp0_2.lt
  exact keys_Index_int_Scan_1_w hY hI' (hp0_0.up2 st) (ho0_0.up2 st) (hp0_1.up2 st) (fun h => by rcases hK2 _ h with h | h <;> (simp only [KU, KN, KC, KO, K0, KB, Lab.mk.injEq] at h) <;> omega) (hp0_2.up2 st) (fun h => by rcases hK2 _ h with h | h <;> (simp only [KU, KN, KC, KO, K0, KB, Lab.mk.injEq] at h) <;> omega) hx4
 ·
  intro D3 s14 stn3
  rintro ⟨v5, h5, h2, ho0_0, h1⟩ hM3 hD3
  have szs14 := stn3.size
  have hS := hS.c0 stn3
  refine rk_last ?_
  refine k_keep [(4, _), (5, _)] ⟨rfl, rfl, trivial⟩ ?_
  refine k_seq ?_
  refine k_region ?_
  refine k_load_blk one28 rfl h2 rfl rfl ?_
  refine k_assign rfl rfl ?_
  refine k_nil ?_
  refine k_keep [(4, _)] ⟨rfl, trivial⟩ ?_
  refine k_ret ?_
  refine re_ret ?_
  refine re_cons hM3 (fun s15 st15 => ?_)
  have szs15 := st15.size
  have hS := hS.c0 st15
  replace h5 := h5.up2 st15
  obtain ⟨s16, e16, st16, h16⟩ := h5.freeze
  rw [← e16]
  have szs16 := st16.size
  have hS := hS.c0 st16
  obtain rfl := Option.some.inj h
  refine re_nil (rs := [4]) rfl rfl ?_
  refine ⟨_, rfl, Ret.mk hS ?_⟩
  exact ⟨_, rfl, h16⟩

set_option maxHeartbeats 1000000 in
set_option maxRecDepth 100000 in
theorem keys_Number_w {s : St} {a0 : Int} {r : (List UInt8)} (tb0 : Tab0 s) (h : keys_Number a0 = some r) : Calls Tryd.prog 18 #[.int .i64 a0] s.w (Ret s K0 (fun s1 v => v = S r)) := by
 unfold keys_Number at h
 have hS := Step.r0 K0 s
 refine k_fn (rs := [2]) (args := [.int .i64 a0]) Tryd.func18 rfl rfl rfl rfl ?_
 refine k_seq ?_
 refine k_region ?_
 refine k_assign rfl rfl ?_
 refine k_nil ?_
 refine k_seq ?_
 refine k_region ?_
 refine k_move rfl rfl ?_
 refine k_max2 rfl rfl rfl ?_
 refine k_min2 rfl rfl rfl ?_
 by_cases c1 : -9223372036854775808 ≤ min (max a0 0) 9999999999 ∧ min (max a0 0) 9999999999 ≤ 9223372036854775807
 case neg => exact (noneNe (itF h c1)).elim
 replace h := itT h c1
 refine k_call cal37 rfl (itoa_w (a0 := (min (max a0 0) 9999999999)) tb0 c1) rfl ?_
 rintro s2 _ st2 rfl
 have szs2 := st2.size
 have hS := hS.trans0 st2
 refine k_assign rfl rfl ?_
 refine k_nil ?_
 refine k_keep [(2, _), (3, _)] ⟨rfl, rfl, trivial⟩ ?_
 refine k_seq ?_
 refine k_region ?_
 refine k_move rfl rfl ?_
 refine k_len_str Tryd.underlying9 rfl rfl ?_
 refine k_sub_ rfl rfl rfl ?_
 by_cases c3 : 0 ≤ i64 (10 - ((itoaF (min (max a0 0) 9999999999)).length : Int)) ∧ i64 (10 - ((itoaF (min (max a0 0) 9999999999)).length : Int)) ≤ 1000000 ∧ ([48] : List UInt8).length ≤ 1000000
 case neg => exact (noneNe (itF h c3)).elim
 replace h := itT h c3
 refine k_call cal38 rfl (repeat_w (a0 := ([48] : List UInt8)) (a1 := (i64 (10 - ((itoaF (min (max a0 0) 9999999999)).length : Int)))) c3) rfl ?_
 rintro s4 _ st4 rfl
 have szs4 := st4.size
 have hS := hS.trans0 st4
 refine k_move rfl rfl ?_
 obtain ⟨x1, hx1, h⟩ := ob h
 refine k_add_str rfl rfl (app_out hx1).1 rfl ?_
 refine k_as (v := S x1) (congrArg S (app_out hx1).2.symm) ?_
 refine k_assign rfl rfl ?_
 refine k_nil ?_
 refine k_keep [(2, _)] ⟨rfl, trivial⟩ ?_
 refine k_ret ?_
 obtain rfl := Option.some.inj h
 refine ⟨_, rfl, Ret.mk hS ?_⟩
 exact rfl

set_option maxHeartbeats 1000000 in
set_option maxRecDepth 100000 in
theorem keys_Merge_int_qoo_w {s : St} {k0_0 : Nat} {p0_0 : Value} {a0_0 : KeysIndexInt} {k0_1 : Nat} {p0_1 : Value} {a0_1 : KeysIndexInt} {bq0 : Nat} {r : Unit} (ho0_0 : OKeysIndexInt s k0_0 p0_0 a0_0) (ho0_1 : OKeysIndexInt s k0_1 p0_1 a0_1) (hq0 : Blk s bq0 ⟨bq0 + 1, 0⟩ [p0_0, p0_1] 26) (h : keys_Merge_int_qoo a0_0 a0_1 = some r) : Calls Tryd.prog 16 #[.slice (some ⟨bq0, 0, none⟩) 2 2] s.w (Ret s K0 (fun s1 v => ∃ (ub0_0 : Nat), v = .func (.func 31) #[] #[.pointer (some ⟨ub0_0, 0, none⟩)] ∧ s.n ≤ ub0_0 ∧ Blk s1 ub0_0 ⟨ub0_0 + 1, 0⟩ [.slice (some ⟨bq0, 0, none⟩) 2 2] 24)) := by
 unfold keys_Merge_int_qoo at h
 have le0_0 := ho0_0.le
 have ne0_0 := ho0_0.ne
 have le0_1 := ho0_1.le
 have ne0_1 := ho0_1.ne
 have ltq0 := hq0.lt
 have hS := Step.r0 K0 s
 refine k_fn (rs := [2]) (args := [.slice (some ⟨bq0, 0, none⟩) 2 2]) Tryd.func16 rfl rfl rfl rfl ?_
 refine k_seq ?_
 refine k_region ?_
 refine k_box rfl rfl ?_
 intro s1 b1 st1 h1 ge1
 have szs1 := st1.size
 have hS := hS.trans0 st1
 have lt1 := h1.lt
 refine k_assign rfl rfl ?_
 refine k_nil ?_
 refine k_keep [(1, _), (2, _)] ⟨rfl, rfl, trivial⟩ ?_
 refine k_seq ?_
 refine k_region ?_
 refine k_makeFunc rfl rfl rfl ?_
 refine k_assign rfl rfl ?_
 refine k_nil ?_
 refine k_keep [(2, _)] ⟨rfl, trivial⟩ ?_
 refine k_ret ?_
 obtain rfl := Option.some.inj h
 refine ⟨_, rfl, Ret.mk hS ?_⟩
 exact ⟨_, rfl, (by omega), h1⟩

set_option maxHeartbeats 1000000 in
set_option maxRecDepth 100000 in
theorem keys_fronts_int_Len_w {s : St} {l0 : Lab} {v0 : Value} {a0 : (List KeysFrontInt)} {r : Int} (hp0 : SL s l0 v0 2 (a0.map dKeysFrontInt)) (h : keys_fronts_int_Len a0 = some r) : Calls Tryd.prog 97 #[v0] s.w (Ret s K0 (fun s1 v => v = .int .i64 r)) := by
 unfold keys_fronts_int_Len at h
 obtain ⟨lf0, lf0le, lf0ne, hp0⟩ := hp0.fix
 have hS := Step.r0 K0 s
 refine k_fn (rs := [2]) (args := [v0]) Tryd.func97 rfl rfl rfl rfl ?_
 refine k_seq ?_
 refine k_region ?_
 refine k_assign rfl rfl ?_
 refine k_nil ?_
 refine k_seq ?_
 refine k_region ?_
 refine k_move rfl rfl ?_
 refine k_len Tryd.underlying70 rfl hp0.hasLen rfl ?_
 refine k_as (v := .int .i64 (a0.length : Int)) (by simp only [List.length_map]) ?_
 refine k_assign rfl rfl ?_
 refine k_nil ?_
 refine k_keep [(2, _)] ⟨rfl, trivial⟩ ?_
 refine k_ret ?_
 obtain rfl := Option.some.inj h
 refine ⟨_, rfl, Ret.mk hS ?_⟩
 exact rfl

set_option maxHeartbeats 1000000 in
set_option maxRecDepth 100000 in
theorem keys_fronts_int_Less_w {s : St} {l0 : Lab} {v0 : Value} {a0 : (List KeysFrontInt)} {a1 : Int} {a2 : Int} {r : Bool} (hp0 : SL s l0 v0 2 (a0.map dKeysFrontInt)) (h : keys_fronts_int_Less a0 a1 a2 = some r) : Calls Tryd.prog 98 #[v0, .int .i64 a1, .int .i64 a2] s.w (Ret s K0 (fun s1 v => v = .bool r)) := by
 unfold keys_fronts_int_Less at h
 obtain ⟨lf0, lf0le, lf0ne, hp0⟩ := hp0.fix
 have hS := Step.r0 K0 s
 refine k_fn (rs := [6]) (args := [v0, .int .i64 a1, .int .i64 a2]) Tryd.func98 rfl rfl rfl rfl ?_
 refine k_seq ?_
 refine k_region ?_
 refine k_assign rfl rfl ?_
 refine k_nil ?_
 refine k_seq ?_
 refine k_drawT (KN s.n) 17 (.read 0 (.read 1 (.read 2 (.read 3 (.read 4 (.read 5 (.read 6 (.read 7 (.read 8 (.read 9 (.read 10 (.read 11 (.read 12 (.read 13 (.read 14 (.read 15 (.read 16 .fin))))))))))))))))) mixed (by intro c h; (try simp only [KC, KO, KU, KN, KB] at h) <;> omega) rfl rfl rfl ?_
 intro s1 st1
 have szs1 := st1.size
 have hS := hS.trans0 st1
 replace hp0 := hp0.up2 st1
 refine rt_read (v0) rfl rfl (fun s2 st2 => ?_) ?_
 ·refine k_move rfl rfl ?_
  exact fq_end
 refine rt_read (.int .i64 a1) rfl rfl (fun s3 st3 => ?_) ?_
 ·refine k_move rfl rfl ?_
  exact fq_end
 obtain ⟨x1, hx1, h⟩ := ob h
 refine rt_ix rfl (wanted_none rfl) Tryd.underlying70 size74 rfl rfl hp0 (geti_out hx1).1 (geti_map hx1) rfl ?_
 intro q4 hq4
 refine rt_fa rfl (wanted_none rfl) rfl hq4 (by rfl) fld74_0 rfl ?_
 intro q5 h5
 refine rt_ldsl rfl (wanted_none rfl) one62 rfl h5 (by first | exact id | (simp only [KC, KO, KU, KN, KB] <;> omega)) rfl ?_
 intro v6 h6
 obtain ⟨x2, hx2, h⟩ := ob h
 refine rt_ix rfl (wanted_none rfl) Tryd.underlying62 size67 rfl rfl (SL.of_R h6) (geti_out hx2).1 (geti_map hx2) rfl ?_
 intro q7 hq7
 refine rt_fa rfl (wanted_none rfl) rfl hq7 (by rfl) fld67_0 rfl ?_
 intro q8 h8
 refine rt_read (S x2.key_) rfl rfl (fun s9 st9 => ?_) ?_
 ·try replace h8 := h8.up2 st9
  refine k_load_val one9 rfl h8 rfl ?_
  exact fq_end
 refine rt_read (v0) rfl rfl (fun s10 st10 => ?_) ?_
 ·refine k_move rfl rfl ?_
  exact fq_end
 refine rt_read (.int .i64 a2) rfl rfl (fun s11 st11 => ?_) ?_
 ·refine k_move rfl rfl ?_
  exact fq_end
 obtain ⟨x3, hx3, h⟩ := ob h
 refine rt_ix rfl (wanted_none rfl) Tryd.underlying70 size74 rfl rfl hp0 (geti_out hx3).1 (geti_map hx3) rfl ?_
 intro q12 hq12
 refine rt_fa rfl (wanted_none rfl) rfl hq12 (by rfl) fld74_0 rfl ?_
 intro q13 h13
 refine rt_ldsl rfl (wanted_none rfl) one62 rfl h13 (by first | exact id | (simp only [KC, KO, KU, KN, KB] <;> omega)) rfl ?_
 intro v14 h14
 obtain ⟨x4, hx4, h⟩ := ob h
 refine rt_ix rfl (wanted_none rfl) Tryd.underlying62 size67 rfl rfl (SL.of_R h14) (geti_out hx4).1 (geti_map hx4) rfl ?_
 intro q15 hq15
 refine rt_fa rfl (wanted_none rfl) rfl hq15 (by rfl) fld67_0 rfl ?_
 intro q16 h16
 refine rt_read (S x4.key_) rfl rfl (fun s17 st17 => ?_) ?_
 ·try replace h16 := h16.up2 st17
  refine k_load_val one9 rfl h16 rfl ?_
  exact fq_end
 refine rt_read (S x2.key_) rfl rfl (fun s18 st18 => ?_) ?_
 ·refine k_assign rfl rfl ?_
  exact fq_end
 refine rt_fin ?_
 refine k_assign rfl rfl ?_
 refine k_nil ?_
 refine k_keep [(0, _), (1, _), (2, _), (6, _), (7, _), (8, _)] ⟨rfl, rfl, rfl, rfl, rfl, rfl, trivial⟩ ?_
 refine k_seq ?_
 refine k_drawT (KN s1.n) 21 (.read 0 (.read 1 (.read 2 (.read 3 (.read 4 (.read 5 (.read 6 (.read 7 (.read 8 (.read 9 (.read 10 (.read 11 (.read 12 (.read 13 (.read 14 (.read 15 (.read 16 (.read 17 (.read 18 (.read 19 (.read 20 .fin))))))))))))))))))))) mixed (by intro c h; (try simp only [KC, KO, KU, KN, KB] at h) <;> omega) rfl rfl rfl ?_
 intro s19 st19
 have szs19 := st19.size
 have hS := hS.trans0 st19
 replace hp0 := hp0.up2 st19
 refine rt_read (S x2.key_) rfl rfl (fun s20 st20 => ?_) ?_
 ·refine k_move rfl rfl ?_
  exact fq_end
 refine rt_read (S x4.key_) rfl rfl (fun s21 st21 => ?_) ?_
 ·refine k_move rfl rfl ?_
  exact fq_end
 refine rt_read (.bool (Op.bytesLess x2.key_ x4.key_)) rfl rfl (fun s22 st22 => ?_) ?_
 ·refine k_lss_str rfl rfl rfl ?_
  exact fq_end
 refine rt_read (.bool (Op.bytesLess x2.key_ x4.key_)) rfl rfl (fun s23 st23 => ?_) ?_
 ·refine k_move rfl rfl ?_
  exact fq_end
 refine rt_splitb (fun c24 => ?_) (fun c24 => ?_)
 ·
  have h := ibT h c24
  refine rt_read undef rfl rfl (fun s25 st25 => ?_) ?_
  ·refine k_no rfl rfl rfl rfl ?_
   exact fq_end
  refine rt_read undef rfl rfl (fun s26 st26 => ?_) ?_
  ·refine k_no rfl rfl rfl rfl ?_
   exact fq_end
  refine rt_read undef rfl rfl (fun s27 st27 => ?_) ?_
  ·refine k_no rfl rfl rfl rfl ?_
   exact fq_end
  refine rt_read undef rfl rfl (fun s28 st28 => ?_) ?_
  ·refine k_no rfl rfl rfl rfl ?_
   exact fq_end
  refine rt_read undef rfl rfl (fun s29 st29 => ?_) ?_
  ·refine k_nou rfl rfl rfl rfl ?_
   exact fq_end
  refine rt_read undef rfl rfl (fun s30 st30 => ?_) ?_
  ·refine k_nou rfl rfl rfl rfl ?_
   exact fq_end
  refine rt_read undef rfl rfl (fun s31 st31 => ?_) ?_
  ·refine k_nou rfl rfl rfl rfl ?_
   exact fq_end
  refine rt_read undef rfl rfl (fun s32 st32 => ?_) ?_
  ·refine k_nou rfl rfl rfl rfl ?_
   exact fq_end
  refine rt_read undef rfl rfl (fun s33 st33 => ?_) ?_
  ·refine k_nou rfl rfl rfl rfl ?_
   exact fq_end
  refine rt_read undef rfl rfl (fun s34 st34 => ?_) ?_
  ·refine k_nou rfl rfl rfl rfl ?_
   exact fq_end
  refine rt_read undef rfl rfl (fun s35 st35 => ?_) ?_
  ·refine k_nou rfl rfl rfl rfl ?_
   exact fq_end
  refine rt_read undef rfl rfl (fun s36 st36 => ?_) ?_
  ·refine k_nou rfl rfl rfl rfl ?_
   exact fq_end
  refine rt_read undef rfl rfl (fun s37 st37 => ?_) ?_
  ·refine k_nou rfl rfl rfl rfl ?_
   exact fq_end
  refine rt_read undef rfl rfl (fun s38 st38 => ?_) ?_
  ·refine k_nou rfl rfl rfl rfl ?_
   exact fq_end
  refine rt_read undef rfl rfl (fun s39 st39 => ?_) ?_
  ·refine k_nou rfl rfl rfl rfl ?_
   exact fq_end
  refine rt_read undef rfl rfl (fun s40 st40 => ?_) ?_
  ·refine k_no rfl rfl rfl rfl ?_
   exact fq_end
  refine rt_read (.bool true) rfl rfl (fun s41 st41 => ?_) ?_
  ·refine k_pickT rfl rfl rfl rfl ?_
   exact fq_end
  refine rt_fin ?_
  refine k_assign rfl rfl ?_
  refine k_nil ?_
  refine k_keep [(6, _)] ⟨rfl, trivial⟩ ?_
  refine k_ret ?_
  obtain rfl := Option.some.inj h
  refine ⟨_, rfl, Ret.mk hS ?_⟩
  exact rfl
 ·
  have h := ibF h c24
  refine rt_read (S x2.key_) rfl rfl (fun s42 st42 => ?_) ?_
  ·refine k_yes rfl rfl ?_
   refine k_move rfl rfl ?_
   exact fq_end
  refine rt_read (S x4.key_) rfl rfl (fun s43 st43 => ?_) ?_
  ·refine k_yes rfl rfl ?_
   refine k_move rfl rfl ?_
   exact fq_end
  refine rt_read (.bool (decide (x2.key_ = x4.key_))) rfl rfl (fun s44 st44 => ?_) ?_
  ·refine k_yes rfl rfl ?_
   refine k_eql_str rfl rfl rfl ?_
   exact fq_end
  refine rt_read (.bool (decide (x2.key_ = x4.key_))) rfl rfl (fun s45 st45 => ?_) ?_
  ·refine k_yes rfl rfl ?_
   refine k_move rfl rfl ?_
   exact fq_end
  refine rt_split (fun c46 => ?_) (fun c46 => ?_)
  ·
   have h := itT h c46
   refine rt_read (v0) rfl rfl (fun s47 st47 => ?_) ?_
   ·refine k_yes rfl rfl ?_
    refine k_move rfl rfl ?_
    exact fq_end
   refine rt_read (.int .i64 a1) rfl rfl (fun s48 st48 => ?_) ?_
   ·refine k_yes rfl rfl ?_
    refine k_move rfl rfl ?_
    exact fq_end
   obtain ⟨x5, hx5, h⟩ := ob h
   refine rt_ix rfl (wanted_yes rfl rfl rfl) Tryd.underlying70 size74 rfl rfl hp0 (geti_out hx5).1 (geti_map hx5) rfl ?_
   intro q49 hq49
   refine rt_fa rfl (wanted_yes rfl rfl rfl) rfl hq49 (by rfl) fld74_1 rfl ?_
   intro q50 h50
   refine rt_read (.int .i64 x5.at_) rfl rfl (fun s51 st51 => ?_) ?_
   ·try replace h50 := h50.up2 st51
    refine k_yes rfl rfl ?_
    refine k_load_val one3 rfl h50 rfl ?_
    exact fq_end
   refine rt_read (v0) rfl rfl (fun s52 st52 => ?_) ?_
   ·refine k_yes rfl rfl ?_
    refine k_move rfl rfl ?_
    exact fq_end
   refine rt_read (.int .i64 a2) rfl rfl (fun s53 st53 => ?_) ?_
   ·refine k_yes rfl rfl ?_
    refine k_move rfl rfl ?_
    exact fq_end
   obtain ⟨x6, hx6, h⟩ := ob h
   refine rt_ix rfl (wanted_yes rfl rfl rfl) Tryd.underlying70 size74 rfl rfl hp0 (geti_out hx6).1 (geti_map hx6) rfl ?_
   intro q54 hq54
   refine rt_fa rfl (wanted_yes rfl rfl rfl) rfl hq54 (by rfl) fld74_1 rfl ?_
   intro q55 h55
   refine rt_read (.int .i64 x6.at_) rfl rfl (fun s56 st56 => ?_) ?_
   ·try replace h55 := h55.up2 st56
    refine k_yes rfl rfl ?_
    refine k_load_val one3 rfl h55 rfl ?_
    exact fq_end
   refine rt_read (.bool (decide (x5.at_ < x6.at_))) rfl rfl (fun s57 st57 => ?_) ?_
   ·refine k_yes rfl rfl ?_
    refine k_lss rfl rfl rfl ?_
    exact fq_end
   refine rt_read (.bool (decide (x5.at_ < x6.at_))) rfl rfl (fun s58 st58 => ?_) ?_
   ·refine k_yes rfl rfl ?_
    refine k_pickT rfl rfl rfl rfl ?_
    exact fq_end
   refine rt_read (.bool (decide (x5.at_ < x6.at_))) rfl rfl (fun s59 st59 => ?_) ?_
   ·refine k_pickF rfl rfl rfl rfl ?_
    exact fq_end
   refine rt_fin ?_
   refine k_assign rfl rfl ?_
   refine k_nil ?_
   refine k_keep [(6, _)] ⟨rfl, trivial⟩ ?_
   refine k_ret ?_
   obtain rfl := Option.some.inj h
   refine ⟨_, rfl, Ret.mk hS ?_⟩
   exact rfl
  ·
   have h := itF h c46
   refine rt_read undef rfl rfl (fun s60 st60 => ?_) ?_
   ·refine k_no rfl rfl rfl rfl ?_
    exact fq_end
   refine rt_read undef rfl rfl (fun s61 st61 => ?_) ?_
   ·refine k_no rfl rfl rfl rfl ?_
    exact fq_end
   refine rt_read undef rfl rfl (fun s62 st62 => ?_) ?_
   ·refine k_no rfl rfl rfl rfl ?_
    exact fq_end
   refine rt_read undef rfl rfl (fun s63 st63 => ?_) ?_
   ·refine k_no rfl rfl rfl rfl ?_
    exact fq_end
   refine rt_read undef rfl rfl (fun s64 st64 => ?_) ?_
   ·refine k_no rfl rfl rfl rfl ?_
    exact fq_end
   refine rt_read undef rfl rfl (fun s65 st65 => ?_) ?_
   ·refine k_no rfl rfl rfl rfl ?_
    exact fq_end
   refine rt_read undef rfl rfl (fun s66 st66 => ?_) ?_
   ·refine k_no rfl rfl rfl rfl ?_
    exact fq_end
   refine rt_read undef rfl rfl (fun s67 st67 => ?_) ?_
   ·refine k_no rfl rfl rfl rfl ?_
    exact fq_end
   refine rt_read undef rfl rfl (fun s68 st68 => ?_) ?_
   ·refine k_no rfl rfl rfl rfl ?_
    exact fq_end
   refine rt_read undef rfl rfl (fun s69 st69 => ?_) ?_
   ·refine k_no rfl rfl rfl rfl ?_
    exact fq_end
   refine rt_read undef rfl rfl (fun s70 st70 => ?_) ?_
   ·refine k_no rfl rfl rfl rfl ?_
    exact fq_end
   refine rt_read (.bool false) rfl rfl (fun s71 st71 => ?_) ?_
   ·refine k_yes rfl rfl ?_
    refine k_pickF rfl rfl rfl rfl ?_
    exact fq_end
   refine rt_read (.bool false) rfl rfl (fun s72 st72 => ?_) ?_
   ·refine k_pickF rfl rfl rfl rfl ?_
    exact fq_end
   refine rt_fin ?_
   refine k_assign rfl rfl ?_
   refine k_nil ?_
   refine k_keep [(6, _)] ⟨rfl, trivial⟩ ?_
   refine k_ret ?_
   obtain rfl := Option.some.inj h
   refine ⟨_, rfl, Ret.mk hS ?_⟩
   exact rfl

set_option maxHeartbeats 1000000 in
set_option maxRecDepth 100000 in
theorem keys_fronts_int_Swap_w {s : St} {l0 : Lab} {v0 : Value} {a0 : (List KeysFrontInt)} {a1 : Int} {a2 : Int} {r : (List KeysFrontInt)} (hp0 : Own s l0 74 2 v0 (a0.map dKeysFrontInt)) (hlle0 : l0.o ≤ s.n) (h : keys_fronts_int_Swap a0 a1 a2 = some r) : Calls Tryd.prog 99 #[v0, .int .i64 a1, .int .i64 a2] s.w (Ret s (KC l0.o l0.c) (fun s1 v => v = .tuple #[] ∧ Own s1 l0 74 2 v0 (r.map dKeysFrontInt))) := by
 unfold keys_fronts_int_Swap at h
 have lp0 := Own.le1 hp0
 have hS := Step.r0 (KC l0.o l0.c) s
 refine k_fn (rs := []) (args := [v0, .int .i64 a1, .int .i64 a2]) Tryd.func99 rfl rfl rfl rfl ?_
 obtain ⟨x1, hx1, h⟩ := ob h
 obtain ⟨x2, hx2, h⟩ := ob h
 obtain ⟨x3, hx3, h⟩ := ob h
 have hp0_d := hp0
 refine k_drawT (KU (KN s.n) (KC l0.o l0.c)) 14 (.read 0 (.read 1 (.read 2 (.read 3 (.read 4 (.read 5 (.read 6 (.read 8 (.read 9 (.read 10 (.alt 7 (.alt 11 (.read 12 (.alt 13 .fin .no)) .no) (.alt 11 (.alt 7 (.read 12 (.alt 13 .fin .no)) .no) .no)))))))))))) mixed (by intro c h; (try simp only [KC, KO, KU, KN, KB] at h) <;> omega) rfl rfl rfl ?_
 intro s1 st1
 have szs1 := st1.size
 have hS := hS.trans0 st1
 replace hp0 := hp0.up2 st1
 refine rt_read (v0) rfl rfl (fun s2 st2 => ?_) ?_
 ·refine k_move rfl rfl ?_
  exact fq_end
 refine rt_read (.int .i64 a1) rfl rfl (fun s3 st3 => ?_) ?_
 ·refine k_move rfl rfl ?_
  exact fq_end
 refine rt_read (v0) rfl rfl (fun s4 st4 => ?_) ?_
 ·refine k_move rfl rfl ?_
  exact fq_end
 refine rt_read (.int .i64 a2) rfl rfl (fun s5 st5 => ?_) ?_
 ·refine k_move rfl rfl ?_
  exact fq_end
 refine rt_read (v0) rfl rfl (fun s6 st6 => ?_) ?_
 ·refine k_move rfl rfl ?_
  exact fq_end
 refine rt_read (.int .i64 a2) rfl rfl (fun s7 st7 => ?_) ?_
 ·refine k_move rfl rfl ?_
  exact fq_end
 have ln8 : l0.o ≤ s.n := Own.le_ne hp0_d (geti_mne hx1)
 refine rt_ix_own rfl (wanted_none rfl) Tryd.underlying70 size74 rfl rfl hp0 (geti_out hx1).1 (geti_map hx1) rfl ?_
 intro q8 hq8 heq8
 refine rt_read (v0) rfl rfl (fun s9 st9 => ?_) ?_
 ·refine k_move rfl rfl ?_
  exact fq_end
 refine rt_read (.int .i64 a1) rfl rfl (fun s10 st10 => ?_) ?_
 ·refine k_move rfl rfl ?_
  exact fq_end
 have ln11 : l0.o ≤ s.n := Own.le_ne hp0_d (geti_mne hx3)
 refine rt_ix_own rfl (wanted_none rfl) Tryd.underlying70 size74 rfl rfl hp0 (geti_out hx3).1 (geti_map hx3) rfl ?_
 intro q11 hq11 heq11
 refine rt_alt rfl rfl ?_ ?_
 ·
  have hA12 := Step.r0 (KU (KN s.n) (KC l0.o l0.c)) s1
  refine k_load_agg (by exact agg74) rfl hq8 rfl ?_
  intro cs13 h13
  obtain ⟨q13_0, rfl, hq13_0⟩ := opnKeysFrontInt h13
  refine rt_cont hA12 ?_
  refine rt_act rfl rfl ?_
  have hA14 := Step.r0 (KU (KN s.n) (KC l0.o l0.c)) s1
  refine k_load_agg (by exact agg74) rfl hq11 rfl ?_
  intro cs15 h15
  obtain ⟨q15_0, rfl, hq15_0⟩ := opnKeysFrontInt h15
  refine rt_cont hA14 ?_
  have ln16 : l0.o ≤ s.n := Own.le_ne hp0_d (geti_mne hx3)
  refine rt_ix_own rfl (wanted_none rfl) Tryd.underlying70 size74 rfl rfl hp0 (geti_out hx3).1 (geti_map hx3) rfl ?_
  intro q16 hq16 heq16
  refine rt_act0 rfl rfl ?_
  have hA17 := Step.r0 (KU (KN s.n) (KC l0.o l0.c)) s1
  refine k_store_elt (dd := dKeysFrontInt x1) size74 rfl rfl hp0 heq16 (by rw [List.length_map]; exact (List.getElem?_eq_some_iff.1 (geti_out hx3).2.2).1) (⟨_, rfl, (clsKeysFrontInt x1 hq13_0)⟩) rfl ?_
  intro s18 st18 hp0
  rw [← List.map_set] at hp0
  have szs18 := st18.size
  have hS := hS.c0 st18
  have hA17 := hA17.c0 st18
  replace hq15_0 := hq15_0.up2 st18
  refine rt_cont0 hA17 ?_
  refine rt_fin ?_
  obtain ⟨x4, hx4, h⟩ := ob h
  refine k_ixaddr_own Tryd.underlying70 size74 rfl rfl hp0 (geti_out hx4).1 (geti_map hx4) rfl ?_
  intro qx4 hqx4 heqx4
  refine k_store_elt (dd := dKeysFrontInt x3) size74 rfl rfl hp0 heqx4 (by rw [List.length_map]; exact (List.getElem?_eq_some_iff.1 (geti_out hx4).2.2).1) (⟨_, rfl, (clsKeysFrontInt x3 hq15_0)⟩) rfl ?_
  intro s19 st19 hp0
  rw [← List.map_set] at hp0
  have szs19 := st19.size
  have hS := hS.c0 st19
  refine k_nil ?_
  refine k_end ?_
  obtain rfl := Option.some.inj h
  refine ⟨_, rfl, Ret.mk hS ?_⟩
  exact ⟨rfl, hp0⟩
 ·
  refine rt_act rfl rfl ?_
  have hA20 := Step.r0 (KU (KN s.n) (KC l0.o l0.c)) s1
  refine k_load_agg (by exact agg74) rfl hq11 rfl ?_
  intro cs21 h21
  obtain ⟨q21_0, rfl, hq21_0⟩ := opnKeysFrontInt h21
  refine rt_cont hA20 ?_
  refine rt_act rfl rfl ?_
  have hA22 := Step.r0 (KU (KN s.n) (KC l0.o l0.c)) s1
  refine k_load_agg (by exact agg74) rfl hq8 rfl ?_
  intro cs23 h23
  obtain ⟨q23_0, rfl, hq23_0⟩ := opnKeysFrontInt h23
  refine rt_cont hA22 ?_
  have ln24 : l0.o ≤ s.n := Own.le_ne hp0_d (geti_mne hx3)
  refine rt_ix_own rfl (wanted_none rfl) Tryd.underlying70 size74 rfl rfl hp0 (geti_out hx3).1 (geti_map hx3) rfl ?_
  intro q24 hq24 heq24
  refine rt_act0 rfl rfl ?_
  have hA25 := Step.r0 (KU (KN s.n) (KC l0.o l0.c)) s1
  refine k_store_elt (dd := dKeysFrontInt x1) size74 rfl rfl hp0 heq24 (by rw [List.length_map]; exact (List.getElem?_eq_some_iff.1 (geti_out hx3).2.2).1) (⟨_, rfl, (clsKeysFrontInt x1 hq23_0)⟩) rfl ?_
  intro s26 st26 hp0
  rw [← List.map_set] at hp0
  have szs26 := st26.size
  have hS := hS.c0 st26
  have hA25 := hA25.c0 st26
  replace hq21_0 := hq21_0.up2 st26
  refine rt_cont0 hA25 ?_
  refine rt_fin ?_
  obtain ⟨x5, hx5, h⟩ := ob h
  refine k_ixaddr_own Tryd.underlying70 size74 rfl rfl hp0 (geti_out hx5).1 (geti_map hx5) rfl ?_
  intro qx5 hqx5 heqx5
  refine k_store_elt (dd := dKeysFrontInt x3) size74 rfl rfl hp0 heqx5 (by rw [List.length_map]; exact (List.getElem?_eq_some_iff.1 (geti_out hx5).2.2).1) (⟨_, rfl, (clsKeysFrontInt x3 hq21_0)⟩) rfl ?_
  intro s27 st27 hp0
  rw [← List.map_set] at hp0
  have szs27 := st27.size
  have hS := hS.c0 st27
  refine k_nil ?_
  refine k_end ?_
  obtain rfl := Option.some.inj h
  refine ⟨_, rfl, Ret.mk hS ?_⟩
  exact ⟨rfl, hp0⟩

set_option maxHeartbeats 1000000 in
set_option maxRecDepth 100000 in
theorem heap_down_w {s : St} {k0 : Nat} {p0 : Value} {a0 : (List KeysFrontInt)} {a1 : Int} {a2 : Int} {r : (Bool × (List KeysFrontInt))} (ho0 : OKeysFrontsInt s k0 p0 a0) (h : heap_down a0 a1 a2 = some r) : Calls Tryd.prog 49 #[.iface 76 p0, .int .i64 a1, .int .i64 a2] s.w (Ret s (KO k0) (fun s1 v => v = .bool r.1 ∧ OKeysFrontsInt s1 k0 p0 r.2)) := by
 unfold heap_down at h
 have le0 := ho0.le
 have ne0 := ho0.ne
 obtain ⟨bo0, rfl⟩ := ho0.ptr
 obtain ⟨wo0_0, hb_o0, hwo0_0⟩ := ho0.at_
 have hS := Step.r0 (KO k0) s
 refine k_fn (rs := [6]) (args := [.iface 76 (.pointer (some ⟨bo0, 0, none⟩)), .int .i64 a1, .int .i64 a2]) Tryd.func49 rfl rfl rfl rfl ?_
 refine k_seq ?_
 refine k_region ?_
 refine k_assign rfl rfl ?_
 refine k_nil ?_
 refine k_seq ?_
 refine k_region ?_
 refine k_move rfl rfl ?_
 refine k_assign rfl rfl ?_
 refine k_nil ?_
 refine k_keep [(0, _), (1, _), (2, _), (6, _), (7, _)] ⟨rfl, rfl, rfl, rfl, rfl, trivial⟩ ?_
 refine k_seq ?_
 have hz1 : OKeysFrontsInt s k0 (.pointer (some ⟨bo0, 0, none⟩)) a0 := (OKeysFrontsInt.mk_ a0 (by omega) hwo0_0 hb_o0)
 have lehz1 := hz1.le
 have nehz1 := hz1.ne
 obtain ⟨kj1, hK2, h⟩ := jn_out h
 have hE2 := Step.r0 (KC k0 2) s
 refine k_cutc (X := St × Int × (List KeysFrontInt)) [(1, .int .i64 a1), (6, .bool false)] (fun (xL : St × Int × (List KeysFrontInt)) => match xL with | (sl, x2, x3) => [(7, .int .i64 x2)]) (fun (xL : St × Int × (List KeysFrontInt)) (wL : World) => match xL with | (sl, x2, x3) => sl.w = wL ∧ Step (KC k0 2) s sl ∧ (OKeysFrontsInt sl k0 (.pointer (some ⟨bo0, 0, none⟩)) x3) ∧ kj1 x2 x3 = some r) ?_ ?_
 ·
  refine k_block ?_
  refine k_loopc (X := St × Int × (List KeysFrontInt) × Nat) [(0, _), (1, _), (2, _), (6, _)] (fun (xL : St × Int × (List KeysFrontInt) × Nat) => match xL with | (sl, x4, x5, j) => [(7, .int .i64 x4)]) (fun (xL : St × Int × (List KeysFrontInt) × Nat) (wL : World) => match xL with | (sl, x4, x5, j) => sl.w = wL ∧ Step (KC k0 2) s sl ∧ (OKeysFrontsInt sl k0 (.pointer (some ⟨bo0, 0, none⟩)) x5) ∧ heap_down_l1 a2 kj1 j x4 x5 = some r) (fun (xL : St × Int × (List KeysFrontInt) × Nat) => match xL with | (sl, x4, x5, j) => j) (s, a1, a0, FU) ⟨rfl, rfl, rfl, rfl, trivial⟩ ⟨(by first | rfl | (simp <;> rfl)), trivial⟩ ⟨rfl, (Step.refl _).of0 (by first | exact fun _ h => h | (intro c h; simp [KC, KO, KU, KN, KB] at h <;> omega)), hz1, h⟩ ?_
  rintro ⟨s4, x4, x5, j⟩ wL ⟨rfl, hE3, hz1, h⟩
  cases j with
  | zero => rw [heap_down_l1] at h; exact (noneNe h).elim
  | succ j =>
  rw [heap_down_l1] at h
  have szs4 := hE3.size
  have hS := hS.c0 hE3
  have hE2 := hE2.c0 hE3
  refine k_block ?_
  refine k_seq ?_
  refine k_region ?_
  refine k_move rfl rfl ?_
  refine k_mul rfl rfl rfl ?_
  refine k_add rfl rfl rfl ?_
  refine k_assign rfl rfl ?_
  refine k_nil ?_
  refine k_keep [(0, _), (1, _), (2, _), (6, _), (7, _), (8, _)] ⟨rfl, rfl, rfl, rfl, rfl, rfl, trivial⟩ ?_
  refine k_seq ?_
  refine k_seq ?_
  refine k_region ?_
  refine k_move rfl rfl ?_
  refine k_move rfl rfl ?_
  refine k_geq rfl rfl rfl ?_
  refine k_move rfl rfl ?_
  have hE5 := Step.r0 K0 s4
  refine k_cutl (X := St) 3 [(0, .iface 76 ((.pointer (some ⟨bo0, 0, none⟩)))), (1, .int .i64 a1), (2, .int .i64 a2), (6, .bool false), (7, .int .i64 x4), (8, .int .i64 (i64 ((i64 (2 * x4)) + 1))), (15, .int .i64 (i64 ((i64 (2 * x4)) + 1))), (16, .int .i64 a2), (17, .bool (decide (a2 ≤ i64 ((i64 (2 * x4)) + 1))))] (fun _ => [(21, .bool (decide ((a2 ≤ i64 ((i64 (2 * x4)) + 1)) ∨ (i64 ((i64 (2 * x4)) + 1) < 0))))]) (fun sl wL => sl.w = wL ∧ Step K0 s4 sl) ?_ ?_
  ·
   refine k_again 18 rfl ?_
   refine k_split (fun c6 => ?_) (fun c6 => ?_)
   ·
    refine k_no rfl rfl rfl rfl ?_
    refine k_no rfl rfl rfl rfl ?_
    refine k_pickT rfl rfl rfl rfl ?_
    exact k_met ⟨s4, ⟨(congrArg (fun b => some (Value.bool b)) (by first | exact decide_eq_decide.2 ⟨Or.inr, fun h => h.resolve_left c6⟩ | exact (decide_eq_true (Or.inl c6)).symm | (simp [c6]; done) | (simp [c6, i64] <;> omega))), trivial⟩, ⟨rfl, rfl, rfl, rfl, rfl, rfl, rfl, rfl, rfl, trivial⟩, rfl, hE5⟩
   ·
    refine k_yes rfl rfl ?_
    refine k_move rfl rfl ?_
    refine k_yes rfl rfl ?_
    refine k_lss rfl rfl rfl ?_
    refine k_pickF rfl rfl rfl rfl ?_
    exact k_met ⟨s4, ⟨(congrArg (fun b => some (Value.bool b)) (by first | exact decide_eq_decide.2 ⟨Or.inr, fun h => h.resolve_left c6⟩ | exact (decide_eq_true (Or.inl c6)).symm | (simp [c6]; done) | (simp [c6, i64] <;> omega))), trivial⟩, ⟨rfl, rfl, rfl, rfl, rfl, rfl, rfl, rfl, rfl, trivial⟩, rfl, hE5⟩
  ·
   rintro s7 wL ⟨rfl, hE5⟩
   have szs7 := hE5.size
   have hS := hS.trans0 hE5
   have hE2 := hE2.trans0 hE5
   have hE3 := hE3.trans0 hE5
   replace hz1 := hz1.up2 hE5
   refine k_nil ?_
   refine k_keep [(0, _), (1, _), (2, _), (6, _), (7, _), (8, _), (21, _)] ⟨rfl, rfl, rfl, rfl, rfl, rfl, rfl, trivial⟩ ?_
   refine k_cond_dec rfl (fun c8 => ?_) (fun c8 => ?_)
   ·
    have h := itT h c8
    refine k_exit rfl ?_
    exact k_stop ⟨(s7, x4, x5), ⟨(by first | rfl | (simp <;> rfl)), trivial⟩, ⟨rfl, rfl, trivial⟩, ⟨rfl, hE2, hz1, h⟩⟩
   ·
    have h := itF h c8
    refine k_skip ?_
    refine k_seq ?_
    refine k_region ?_
    refine k_move rfl rfl ?_
    refine k_assign rfl rfl ?_
    refine k_nil ?_
    refine k_keep [(0, _), (1, _), (2, _), (6, _), (7, _), (8, _), (9, _)] ⟨rfl, rfl, rfl, rfl, rfl, rfl, rfl, trivial⟩ ?_
    refine k_seq ?_
    obtain ⟨kj6, hK9, h⟩ := jn_out h
    have hE9 := Step.r0 K0 s7
    refine k_cutc (X := St × Int) [(0, .iface 76 ((.pointer (some ⟨bo0, 0, none⟩)))), (1, .int .i64 a1), (2, .int .i64 a2), (6, .bool false), (7, .int .i64 x4)] (fun (xL : St × Int) => match xL with | (sl, x7) => [(9, .int .i64 x7)]) (fun (xL : St × Int) (wL : World) => match xL with | (sl, x7) => sl.w = wL ∧ Step K0 s7 sl ∧ kj6 x7 = some r) ?_ ?_
    ·
     refine k_seq ?_
     refine k_region ?_
     refine k_move rfl rfl ?_
     refine k_add rfl rfl rfl ?_
     refine k_assign rfl rfl ?_
     refine k_nil ?_
     refine k_keep [(0, _), (1, _), (2, _), (6, _), (7, _), (8, _), (9, _), (10, _)] ⟨rfl, rfl, rfl, rfl, rfl, rfl, rfl, rfl, trivial⟩ ?_
     refine k_seq ?_
     refine k_region ?_
     refine k_move rfl rfl ?_
     refine k_move rfl rfl ?_
     refine k_lss rfl rfl rfl ?_
     refine k_move rfl rfl ?_
     obtain ⟨wt10_0, hb_t10, hwt10_0⟩ := hz1.at_
     obtain ⟨x8, hx8, h⟩ := ob h
     have hE11 := Step.r0 K0 s7
     refine k_cutl (X := St) 5 [(0, .iface 76 (.pointer (some ⟨bo0, 0, none⟩))), (1, .int .i64 a1), (2, .int .i64 a2), (6, .bool false), (7, .int .i64 x4), (8, .int .i64 (i64 ((i64 (2 * x4)) + 1))), (9, .int .i64 (i64 ((i64 (2 * x4)) + 1))), (10, .int .i64 (i64 ((i64 ((i64 (2 * x4)) + 1)) + 1))), (25, .int .i64 (i64 ((i64 ((i64 (2 * x4)) + 1)) + 1))), (26, .int .i64 a2), (27, .bool (decide (i64 ((i64 ((i64 (2 * x4)) + 1)) + 1) < a2)))] (fun _ => [(33, .bool x8)]) (fun sl wL => sl.w = wL ∧ Step K0 s7 sl) ?_ ?_
     ·
      refine k_again 28 rfl ?_
      refine k_split (fun c12 => ?_) (fun c12 => ?_)
      ·
       have hx8 := itT hx8 c12
       refine k_yes rfl rfl ?_
       refine k_move rfl rfl ?_
       refine k_yes rfl rfl ?_
       refine k_move rfl rfl ?_
       refine k_yes rfl rfl ?_
       refine k_move rfl rfl ?_
       refine k_yes rfl rfl ?_
       obtain ⟨x9, hx9, hx8⟩ := ob hx8
       refine k_invokev (e := 70) rfl rfl methv76_Less one70 hb_t10 cal98 (keys_fronts_int_Less_w  (hwt10_0.sl) hx9) rfl ?_
       rintro s13 vr13 st13 rfl
       have szs13 := st13.size
       have hS := hS.trans0 st13
       have hE2 := hE2.trans0 st13
       have hE3 := hE3.trans0 st13
       have hE9 := hE9.trans0 st13
       have hE11 := hE11.trans0 st13
       refine k_pickT rfl rfl rfl rfl ?_
       exact k_met ⟨s13, ⟨(congrArg (fun b => some (Value.bool b)) (Option.some.inj hx8)), trivial⟩, ⟨rfl, rfl, rfl, rfl, rfl, rfl, rfl, rfl, rfl, rfl, rfl, trivial⟩, rfl, hE11⟩
      ·
       have hx8 := itF hx8 c12
       refine k_no rfl rfl rfl rfl ?_
       refine k_no rfl rfl rfl rfl ?_
       refine k_no rfl rfl rfl rfl ?_
       refine k_no rfl rfl rfl rfl ?_
       refine k_pickF rfl rfl rfl rfl ?_
       exact k_met ⟨s7, ⟨(congrArg (fun b => some (Value.bool b)) (Option.some.inj hx8)), trivial⟩, ⟨rfl, rfl, rfl, rfl, rfl, rfl, rfl, rfl, rfl, rfl, rfl, trivial⟩, rfl, hE11⟩
     ·
      rintro s14 wL ⟨rfl, hE11⟩
      have szs14 := hE11.size
      have hS := hS.trans0 hE11
      have hE2 := hE2.trans0 hE11
      have hE3 := hE3.trans0 hE11
      have hE9 := hE9.trans0 hE11
      replace hb_t10 := hb_t10.up2 hE11
      replace hwt10_0 := hwt10_0.up2 hE11
      refine k_nil ?_
      refine k_keep [(0, _), (1, _), (2, _), (6, _), (7, _), (9, _), (10, _), (33, _)] ⟨rfl, rfl, rfl, rfl, rfl, rfl, rfl, rfl, trivial⟩ ?_
      refine k_cond rfl (fun c15 => ?_) (fun c15 => ?_)
      ·
       have h := ibT h c15
       refine k_region ?_
       refine k_move rfl rfl ?_
       refine k_assign rfl rfl ?_
       refine k_nil ?_
       have hz16 : OKeysFrontsInt s14 k0 (.pointer (some ⟨bo0, 0, none⟩)) x5 := (OKeysFrontsInt.mk_ x5 (by omega) hwt10_0 hb_t10)
       have lehz16 := hz16.le
       have nehz16 := hz16.ne
       exact k_stop ⟨(s14, i64 ((i64 ((i64 (2 * x4)) + 1)) + 1)), ⟨(by first | rfl | (simp <;> rfl)), trivial⟩, ⟨rfl, rfl, rfl, rfl, rfl, trivial⟩, ⟨rfl, hE9, h⟩⟩
      ·
       have h := ibF h c15
       refine k_skip ?_
       have hz17 : OKeysFrontsInt s14 k0 (.pointer (some ⟨bo0, 0, none⟩)) x5 := (OKeysFrontsInt.mk_ x5 (by omega) hwt10_0 hb_t10)
       have lehz17 := hz17.le
       have nehz17 := hz17.ne
       exact k_stop ⟨(s14, i64 ((i64 (2 * x4)) + 1)), ⟨(by first | rfl | (simp <;> rfl)), trivial⟩, ⟨rfl, rfl, rfl, rfl, rfl, trivial⟩, ⟨rfl, hE9, h⟩⟩
    ·
     rintro ⟨s18, x7⟩ wL ⟨rfl, hE9, h⟩
     rw [hK9] at h
     have szs18 := hE9.size
     have hS := hS.trans0 hE9
     have hE2 := hE2.trans0 hE9
     have hE3 := hE3.trans0 hE9
     replace hz1 := hz1.up2 hE9
     refine k_seq ?_
     refine k_seq ?_
     refine k_region ?_
     refine k_move rfl rfl ?_
     refine k_move rfl rfl ?_
     refine k_move rfl rfl ?_
     obtain ⟨wt19_0, hb_t19, hwt19_0⟩ := hz1.at_
     obtain ⟨x10, hx10, h⟩ := ob h
     refine k_invokev (e := 70) rfl rfl methv76_Less one70 hb_t19 cal98 (keys_fronts_int_Less_w  (hwt19_0.sl) hx10) rfl ?_
     rintro s20 vr20 st20 rfl
     have szs20 := st20.size
     have hS := hS.trans0 st20
     have hE2 := hE2.trans0 st20
     have hE3 := hE3.trans0 st20
     replace hb_t19 := hb_t19.up2 st20
     replace hwt19_0 := hwt19_0.up2 st20
     refine k_not rfl rfl ?_
     refine k_nil ?_
     refine k_keep [(0, _), (1, _), (2, _), (6, _), (7, _), (9, _), (39, _)] ⟨rfl, rfl, rfl, rfl, rfl, rfl, rfl, trivial⟩ ?_
     refine k_cond rfl (fun c21 => ?_) (fun c21 => ?_)
     ·
      have h := ibT h c21
      refine k_exit rfl ?_
      have hz22 : OKeysFrontsInt s20 k0 (.pointer (some ⟨bo0, 0, none⟩)) x5 := (OKeysFrontsInt.mk_ x5 (by omega) hwt19_0 hb_t19)
      have lehz22 := hz22.le
      have nehz22 := hz22.ne
      exact k_stop ⟨(s20, x4, x5), ⟨(by first | rfl | (simp <;> rfl)), trivial⟩, ⟨rfl, rfl, trivial⟩, ⟨rfl, hE2, hz22, h⟩⟩
     ·
      have h := ibF h c21
      refine k_skip ?_
      refine k_seq ?_
      refine k_region ?_
      refine k_move rfl rfl ?_
      refine k_move rfl rfl ?_
      refine k_move rfl rfl ?_
      obtain ⟨x11, hx11, h⟩ := ob h
      refine k_invokev (e := 70) rfl rfl methv76_Swap one70 hb_t19 cal99 (keys_fronts_int_Swap_w  hwt19_0 (by first | assumption | omega | (simp <;> omega)) hx11) rfl ?_
      rintro s23 vr23 st23 ⟨rfl, hwt19_0⟩
      have szs23 := st23.size
      have hS := hS.c0 st23
      have hE2 := hE2.c0 st23
      have hE3 := hE3.c0 st23
      replace hb_t19 := hb_t19.up2 st23
      refine k_nil ?_
      refine k_keep [(0, _), (1, _), (2, _), (6, _), (7, _), (9, _)] ⟨rfl, rfl, rfl, rfl, rfl, rfl, trivial⟩ ?_
      refine k_region ?_
      refine k_move rfl rfl ?_
      refine k_assign rfl rfl ?_
      refine k_nil ?_
      refine k_blk ?_
      have hz24 : OKeysFrontsInt s23 k0 (.pointer (some ⟨bo0, 0, none⟩)) x11 := (OKeysFrontsInt.mk_ x11 (by omega) hwt19_0 hb_t19)
      have lehz24 := hz24.le
      have nehz24 := hz24.ne
      exact k_stop ⟨(s23, x7, x11, j), ⟨(by first | rfl | (simp <;> rfl)), trivial⟩, ⟨rfl, rfl, rfl, rfl, trivial⟩, ⟨rfl, hE3, hz24, h⟩, (by simp)⟩
 ·
  rintro ⟨s25, x2, x3⟩ wL ⟨rfl, hE2, hz1, h⟩
  rw [hK2] at h
  have szs25 := hE2.size
  have hS := hS.c0 hE2
  refine k_seq ?_
  refine k_region ?_
  refine k_move rfl rfl ?_
  refine k_move rfl rfl ?_
  refine k_gtr rfl rfl rfl ?_
  refine k_assign rfl rfl ?_
  refine k_nil ?_
  refine k_keep [(6, _)] ⟨rfl, trivial⟩ ?_
  refine k_ret ?_
  obtain rfl := Option.some.inj h
  refine ⟨_, rfl, Ret.mk hS ?_⟩
  exact ⟨rfl, hz1⟩

set_option maxHeartbeats 1000000 in
set_option maxRecDepth 100000 in
theorem heap_Init_w {s : St} {k0 : Nat} {p0 : Value} {a0 : (List KeysFrontInt)} {r : (List KeysFrontInt)} (ho0 : OKeysFrontsInt s k0 p0 a0) (h : heap_Init a0 = some r) : Calls Tryd.prog 34 #[.iface 76 p0] s.w (Ret s (KO k0) (fun s1 v => v = .tuple #[] ∧ OKeysFrontsInt s1 k0 p0 r)) := by
 unfold heap_Init at h
 have le0 := ho0.le
 have ne0 := ho0.ne
 obtain ⟨bo0, rfl⟩ := ho0.ptr
 obtain ⟨wo0_0, hb_o0, hwo0_0⟩ := ho0.at_
 have hS := Step.r0 (KO k0) s
 refine k_fn (rs := []) (args := [.iface 76 (.pointer (some ⟨bo0, 0, none⟩))]) Tryd.func34 rfl rfl rfl rfl ?_
 refine k_seq ?_
 refine k_region ?_
 refine k_move rfl rfl ?_
 obtain ⟨x1, hx1, h⟩ := ob h
 refine k_invokev (e := 70) rfl rfl methv76_Len one70 hb_o0 cal97 (keys_fronts_int_Len_w  (hwo0_0.sl) hx1) rfl ?_
 rintro s1 vr1 st1 rfl
 have szs1 := st1.size
 have hS := hS.trans0 st1
 replace hwo0_0 := hwo0_0.up2 st1
 replace hb_o0 := hb_o0.up2 st1
 refine k_assign rfl rfl ?_
 refine k_nil ?_
 refine k_keep [(0, _), (2, _)] ⟨rfl, rfl, trivial⟩ ?_
 refine k_seq ?_
 refine k_region ?_
 refine k_move rfl rfl ?_
 refine k_quo rfl rfl (by decide) rfl ?_
 refine k_sub_ rfl rfl rfl ?_
 refine k_assign rfl rfl ?_
 refine k_nil ?_
 refine k_keep [(0, _), (2, _), (3, _)] ⟨rfl, rfl, rfl, trivial⟩ ?_
 refine k_block ?_
 have hz2 : OKeysFrontsInt s1 k0 (.pointer (some ⟨bo0, 0, none⟩)) a0 := (OKeysFrontsInt.mk_ a0 (by omega) hwo0_0 hb_o0)
 have lehz2 := hz2.le
 have nehz2 := hz2.ne
 refine k_loopc (X := St × Int × (List KeysFrontInt) × Nat) [(0, _), (2, _)] (fun (xL : St × Int × (List KeysFrontInt) × Nat) => match xL with | (sl, x2, x3, j) => [(3, .int .i64 x2)]) (fun (xL : St × Int × (List KeysFrontInt) × Nat) (wL : World) => match xL with | (sl, x2, x3, j) => sl.w = wL ∧ Step (KO k0) s1 sl ∧ (OKeysFrontsInt sl k0 (.pointer (some ⟨bo0, 0, none⟩)) x3) ∧ heap_Init_l1 x1 j x2 x3 = some r) (fun (xL : St × Int × (List KeysFrontInt) × Nat) => match xL with | (sl, x2, x3, j) => j) (s1, i64 ((i64 (x1.tdiv 2)) - 1), a0, FU) ⟨rfl, rfl, trivial⟩ ⟨(by first | rfl | (simp <;> rfl)), trivial⟩ ⟨rfl, (Step.refl _).of0 (by first | exact fun _ h => h | (intro c h; simp [KC, KO, KU, KN, KB] at h <;> omega)), hz2, h⟩ ?_
 rintro ⟨s4, x2, x3, j⟩ wL ⟨rfl, hE3, hz2, h⟩
 cases j with
 | zero => rw [heap_Init_l1] at h; exact (noneNe h).elim
 | succ j =>
 rw [heap_Init_l1] at h
 have szs4 := hE3.size
 have hS := hS.c0 hE3
 refine k_seq ?_
 refine k_seq ?_
 refine k_region ?_
 refine k_move rfl rfl ?_
 refine k_geq rfl rfl rfl ?_
 refine k_nil ?_
 refine k_keep [(0, _), (2, _), (3, _), (10, _)] ⟨rfl, rfl, rfl, rfl, trivial⟩ ?_
 refine k_cond_dec rfl (fun c5 => ?_) (fun c5 => ?_)
 ·
  have h := itT h c5
  refine k_skip ?_
  refine k_seq ?_
  refine k_block ?_
  refine k_region ?_
  refine k_move rfl rfl ?_
  refine k_move rfl rfl ?_
  refine k_move rfl rfl ?_
  obtain ⟨x4, hx4, h⟩ := ob h
  refine k_call cal49 rfl (heap_down_w  hz2 hx4) rfl ?_
  rintro s6 vr6 st6 ⟨rfl, hz2⟩
  have szs6 := st6.size
  have hS := hS.c0 st6
  have hE3 := hE3.c0 st6
  refine k_nil ?_
  refine k_blk ?_
  refine k_region ?_
  refine k_move rfl rfl ?_
  refine k_sub_ rfl rfl rfl ?_
  refine k_assign rfl rfl ?_
  refine k_nil ?_
  exact k_stop ⟨(s6, i64 (x2 - 1), x4.2, j), ⟨(by first | rfl | (simp <;> rfl)), trivial⟩, ⟨rfl, rfl, trivial⟩, ⟨rfl, hE3, hz2, h⟩, (by simp)⟩
 ·
  have h := itF h c5
  refine k_exit rfl ?_
  refine k_end ?_
  obtain rfl := Option.some.inj h
  refine ⟨_, rfl, Ret.mk hS ?_⟩
  exact ⟨rfl, hz2⟩

set_option maxHeartbeats 1000000 in
set_option maxRecDepth 100000 in
theorem keys_fronts_int_Pop_w {s : St} {k0 : Nat} {p0 : Value} {a0 : (List KeysFrontInt)} {r : (St20 × (List KeysFrontInt))} (ho0 : OKeysFrontsInt s k0 p0 a0) (h : keys_fronts_int_Pop a0 = some r) : Calls Tryd.prog 100 #[p0] s.w (Ret s (KO k0) (fun s1 v => ∃ (u0 : Value), v = u0 ∧ R s1 u0 (dSt20 r.1) ∧ OKeysFrontsInt s1 k0 p0 r.2)) := by
 unfold keys_fronts_int_Pop at h
 have le0 := ho0.le
 have ne0 := ho0.ne
 obtain ⟨bo0, rfl⟩ := ho0.ptr
 obtain ⟨wo0_0, hb_o0, hwo0_0⟩ := ho0.at_
 have hS := Step.r0 (KO k0) s
 refine k_fn (rs := [2]) (args := [.pointer (some ⟨bo0, 0, none⟩)]) Tryd.func100 rfl rfl rfl rfl ?_
 refine k_seq ?_
 refine k_region ?_
 refine k_assign rfl rfl ?_
 refine k_nil ?_
 refine k_seq ?_
 refine k_region ?_
 refine k_move rfl rfl ?_
 refine k_nilCheck rfl rfl ?_
 refine k_load_blk one70 rfl hb_o0 rfl rfl ?_
 refine k_len Tryd.underlying70 rfl (hwo0_0.sl).hasLen rfl ?_
 refine k_as (v := .int .i64 (a0.length : Int)) (by simp only [List.length_map]) ?_
 refine k_sub_ rfl rfl rfl ?_
 refine k_assign rfl rfl ?_
 refine k_nil ?_
 refine k_keep [(0, _), (2, _), (3, _)] ⟨rfl, rfl, rfl, trivial⟩ ?_
 refine k_seq ?_
 refine k_region ?_
 refine k_move rfl rfl ?_
 refine k_nilCheck rfl rfl ?_
 refine k_load_blk one70 rfl hb_o0 rfl rfl ?_
 refine k_move rfl rfl ?_
 obtain ⟨x1, hx1, h⟩ := ob h
 refine k_ixaddr_own Tryd.underlying70 size74 rfl rfl hwo0_0 (geti_out hx1).1 (geti_map hx1) rfl ?_
 intro qx1 hqx1 heqx1
 refine k_load_agg (by exact agg74) rfl hqx1 rfl ?_
 intro cs1 h1
 obtain ⟨q1_0, rfl, hq1_0⟩ := opnKeysFrontInt h1
 refine k_alloc zero74 rfl ?_
 intro s2 b2 st2 h2 ge2
 have szs2 := st2.size
 have hS := hS.trans0 st2
 replace hq1_0 := hq1_0.up2 st2
 replace hwo0_0 := hwo0_0.up2 st2
 replace hb_o0 := hb_o0.up2 st2
 have lt2 := h2.lt
 refine k_store_c (cs' := [q1_0, .int .i64 x1.at_]) size74 rfl rfl h2 (by first | (simp; done) | omega | (dsimp only; omega)) (CellsOf.lit (vs := [q1_0, .int .i64 x1.at_]) rfl (ones.cons ((SL.of_R hq1_0)).one1 (ones.cons rfl ones.nil))) rfl (by first | rfl | (simp; done) | (simp; omega)) rfl ?_
 intro s3 st3 h2
 have szs3 := st3.size
 have hS := hS.c0 st3
 replace hq1_0 := hq1_0.up2 st3
 replace hwo0_0 := hwo0_0.up2 st3
 replace hb_o0 := hb_o0.up2 st3
 refine k_nil ?_
 refine k_keep [(0, _), (2, _), (3, _), (4, _)] ⟨rfl, rfl, rfl, rfl, trivial⟩ ?_
 refine k_seq ?_
 refine k_region ?_
 refine k_move rfl rfl ?_
 refine k_move rfl rfl ?_
 refine k_nilCheck rfl rfl ?_
 refine k_load_blk one70 rfl hb_o0 rfl rfl ?_
 refine k_move rfl rfl ?_
 obtain ⟨x2, hx2, h⟩ := ob h
 refine k_cut_own (j := (i64 ((a0.length : Int) - 1) : Int).toNat) Tryd.underlying70 size74 rfl hwo0_0 (CutAt.int rfl (Int.le_trans (subl_out hx2).1 (subl_out hx2).2.1)) (by rw [List.length_map]; exact subl_j hx2) rfl ?_
 intro v4 h4
 rw [← List.map_take, ← subl_take hx2] at h4
 refine k_nilCheck rfl rfl ?_
 refine k_store_c (cs' := [v4]) size70 rfl rfl hb_o0 (by first | (simp; done) | omega | (dsimp only; omega)) (CellsOf.sl (h4.sl)) rfl (by first | rfl | (simp; done) | (simp; omega)) rfl ?_
 intro s5 st5 hb_o0
 have szs5 := st5.size
 have hS := hS.c0 st5
 replace hq1_0 := hq1_0.up2 st5
 replace h2 := h2.up2 st5
 replace h4 := h4.up2 st5
 refine k_nil ?_
 refine k_keep [(2, _), (4, _)] ⟨rfl, rfl, trivial⟩ ?_
 refine k_seq ?_
 refine k_region ?_
 refine k_load_blka (cs := [q1_0, .int .i64 x1.at_]) agg74 rfl h2 rfl ?_
 refine k_makeIface conc74 rfl rfl ?_
 have h6 : R s5 (.iface 74 (.agg #[q1_0, .int .i64 x1.at_])) (dSt20 (St20.front_int x1)) := R.ifc_mk (show R _ (.agg #[q1_0, .int .i64 x1.at_]) (dKeysFrontInt x1) from ⟨_, rfl, (clsKeysFrontInt x1 hq1_0)⟩)
 refine k_assign rfl rfl ?_
 refine k_nil ?_
 refine k_keep [(2, _)] ⟨rfl, trivial⟩ ?_
 refine k_ret ?_
 obtain rfl := Option.some.inj h
 refine ⟨_, rfl, Ret.mk hS ?_⟩
 exact ⟨_, rfl, h6, (OKeysFrontsInt.mk_ x2 (by omega) h4 hb_o0)⟩

set_option maxHeartbeats 1000000 in
set_option maxRecDepth 100000 in
theorem heap_Pop_w {s : St} {k0 : Nat} {p0 : Value} {a0 : (List KeysFrontInt)} {r : (St20 × (List KeysFrontInt))} (ho0 : OKeysFrontsInt s k0 p0 a0) (h : heap_Pop a0 = some r) : Calls Tryd.prog 35 #[.iface 76 p0] s.w (Ret s (KO k0) (fun s1 v => ∃ (u0 : Value), v = u0 ∧ R s1 u0 (dSt20 r.1) ∧ OKeysFrontsInt s1 k0 p0 r.2)) := by
 unfold heap_Pop at h
 have le0 := ho0.le
 have ne0 := ho0.ne
 obtain ⟨bo0, rfl⟩ := ho0.ptr
 obtain ⟨wo0_0, hb_o0, hwo0_0⟩ := ho0.at_
 have hS := Step.r0 (KO k0) s
 refine k_fn (rs := [2]) (args := [.iface 76 (.pointer (some ⟨bo0, 0, none⟩))]) Tryd.func35 rfl rfl rfl rfl ?_
 refine k_seq ?_
 refine k_region ?_
 refine k_assign rfl rfl ?_
 refine k_nil ?_
 refine k_seq ?_
 refine k_region ?_
 refine k_move rfl rfl ?_
 obtain ⟨x1, hx1, h⟩ := ob h
 refine k_invokev (e := 70) rfl rfl methv76_Len one70 hb_o0 cal97 (keys_fronts_int_Len_w  (hwo0_0.sl) hx1) rfl ?_
 rintro s1 vr1 st1 rfl
 have szs1 := st1.size
 have hS := hS.trans0 st1
 replace hwo0_0 := hwo0_0.up2 st1
 replace hb_o0 := hb_o0.up2 st1
 refine k_sub_ rfl rfl rfl ?_
 refine k_assign rfl rfl ?_
 refine k_nil ?_
 refine k_keep [(0, _), (2, _), (3, _)] ⟨rfl, rfl, rfl, trivial⟩ ?_
 refine k_seq ?_
 refine k_region ?_
 refine k_move rfl rfl ?_
 refine k_move rfl rfl ?_
 obtain ⟨x2, hx2, h⟩ := ob h
 refine k_invokev (e := 70) rfl rfl methv76_Swap one70 hb_o0 cal99 (keys_fronts_int_Swap_w  hwo0_0 (by first | assumption | omega | (simp <;> omega)) hx2) rfl ?_
 rintro s2 vr2 st2 ⟨rfl, hwo0_0⟩
 have szs2 := st2.size
 have hS := hS.c0 st2
 replace hb_o0 := hb_o0.up2 st2
 refine k_nil ?_
 refine k_keep [(0, _), (2, _), (3, _)] ⟨rfl, rfl, rfl, trivial⟩ ?_
 refine k_seq ?_
 refine k_region ?_
 refine k_move rfl rfl ?_
 refine k_move rfl rfl ?_
 obtain ⟨x3, hx3, h⟩ := ob h
 refine k_call cal49 rfl (heap_down_w  (OKeysFrontsInt.mk_ x2 (by omega) hwo0_0 hb_o0) hx3) rfl ?_
 rintro s3 vr3 st3 ⟨rfl, hm3_0⟩
 obtain ⟨w3_0_0, hb_3_0, hw3_0_0⟩ := hm3_0.at_
 have szs3 := st3.size
 have hS := hS.c0 st3
 refine k_nil ?_
 refine k_keep [(0, _), (2, _)] ⟨rfl, rfl, trivial⟩ ?_
 refine k_seq ?_
 refine k_region ?_
 refine k_move rfl rfl ?_
 obtain ⟨x4, hx4, h⟩ := ob h
 refine k_invoke rfl rfl ⟨76, _, 100, rfl, meth76_Pop, cal100, keys_fronts_int_Pop_w  (OKeysFrontsInt.mk_ x3.2 (by omega) hw3_0_0 hb_3_0) hx4⟩ rfl ?_
 rintro s4 v4_0 st4 ⟨_, rfl, h4_0, hm4_0⟩
 obtain ⟨w4_0_0, hb_4_0, hw4_0_0⟩ := hm4_0.at_
 have szs4 := st4.size
 have hS := hS.c0 st4
 refine k_assign rfl rfl ?_
 refine k_nil ?_
 refine k_keep [(2, _)] ⟨rfl, trivial⟩ ?_
 refine k_ret ?_
 obtain rfl := Option.some.inj h
 refine ⟨_, rfl, Ret.mk hS ?_⟩
 exact ⟨_, rfl, h4_0, (OKeysFrontsInt.mk_ x4.2 (by omega) hw4_0_0 hb_4_0)⟩

set_option maxHeartbeats 1000000 in
set_option maxRecDepth 100000 in
theorem heap_up_w {s : St} {k0 : Nat} {p0 : Value} {a0 : (List KeysFrontInt)} {a1 : Int} {r : (List KeysFrontInt)} (ho0 : OKeysFrontsInt s k0 p0 a0) (h : heap_up a0 a1 = some r) : Calls Tryd.prog 50 #[.iface 76 p0, .int .i64 a1] s.w (Ret s (KO k0) (fun s1 v => v = .tuple #[] ∧ OKeysFrontsInt s1 k0 p0 r)) := by
 unfold heap_up at h
 have le0 := ho0.le
 have ne0 := ho0.ne
 obtain ⟨bo0, rfl⟩ := ho0.ptr
 obtain ⟨wo0_0, hb_o0, hwo0_0⟩ := ho0.at_
 have hS := Step.r0 (KO k0) s
 refine k_fn (rs := []) (args := [.iface 76 (.pointer (some ⟨bo0, 0, none⟩)), .int .i64 a1]) Tryd.func50 rfl rfl rfl rfl ?_
 refine k_block ?_
 have hz1 : OKeysFrontsInt s k0 (.pointer (some ⟨bo0, 0, none⟩)) a0 := (OKeysFrontsInt.mk_ a0 (by omega) hwo0_0 hb_o0)
 have lehz1 := hz1.le
 have nehz1 := hz1.ne
 refine k_loopc (X := St × Int × (List KeysFrontInt) × Nat) [(0, _)] (fun (xL : St × Int × (List KeysFrontInt) × Nat) => match xL with | (sl, x1, x2, j) => [(1, .int .i64 x1)]) (fun (xL : St × Int × (List KeysFrontInt) × Nat) (wL : World) => match xL with | (sl, x1, x2, j) => sl.w = wL ∧ Step (KC k0 2) s sl ∧ (OKeysFrontsInt sl k0 (.pointer (some ⟨bo0, 0, none⟩)) x2) ∧ heap_up_l1  j x1 x2 = some r) (fun (xL : St × Int × (List KeysFrontInt) × Nat) => match xL with | (sl, x1, x2, j) => j) (s, a1, a0, FU) ⟨rfl, trivial⟩ ⟨(by first | rfl | (simp <;> rfl)), trivial⟩ ⟨rfl, (Step.refl _).of0 (by first | exact fun _ h => h | (intro c h; simp [KC, KO, KU, KN, KB] at h <;> omega)), hz1, h⟩ ?_
 rintro ⟨s3, x1, x2, j⟩ wL ⟨rfl, hE2, hz1, h⟩
 cases j with
 | zero => rw [heap_up_l1] at h; exact (noneNe h).elim
 | succ j =>
 rw [heap_up_l1] at h
 have szs3 := hE2.size
 have hS := hS.c0 hE2
 refine k_block ?_
 refine k_seq ?_
 refine k_region ?_
 refine k_move rfl rfl ?_
 refine k_sub_ rfl rfl rfl ?_
 refine k_quo rfl rfl (by decide) rfl ?_
 refine k_assign rfl rfl ?_
 refine k_nil ?_
 refine k_keep [(0, _), (1, _), (4, _)] ⟨rfl, rfl, rfl, trivial⟩ ?_
 refine k_seq ?_
 refine k_seq ?_
 refine k_region ?_
 refine k_move rfl rfl ?_
 refine k_move rfl rfl ?_
 refine k_eql rfl rfl rfl ?_
 refine k_move rfl rfl ?_
 obtain ⟨wt4_0, hb_t4, hwt4_0⟩ := hz1.at_
 obtain ⟨x3, hx3, h⟩ := ob h
 have hE5 := Step.r0 K0 s3
 refine k_cutl (X := St) 6 [(0, .iface 76 (.pointer (some ⟨bo0, 0, none⟩))), (1, .int .i64 x1), (4, .int .i64 (i64 ((i64 (x1 - 1)).tdiv 2))), (8, .int .i64 (i64 ((i64 (x1 - 1)).tdiv 2))), (9, .int .i64 x1), (10, .bool (decide (i64 ((i64 (x1 - 1)).tdiv 2) = x1)))] (fun _ => [(17, .bool x3)]) (fun sl wL => sl.w = wL ∧ Step K0 s3 sl) ?_ ?_
 ·
  refine k_again 11 rfl ?_
  refine k_split (fun c6 => ?_) (fun c6 => ?_)
  ·
   have hx3 := itT hx3 c6
   refine k_no rfl rfl rfl rfl ?_
   refine k_no rfl rfl rfl rfl ?_
   refine k_no rfl rfl rfl rfl ?_
   refine k_no rfl rfl rfl rfl ?_
   refine k_no rfl rfl rfl rfl ?_
   refine k_pickT rfl rfl rfl rfl ?_
   exact k_met ⟨s3, ⟨(congrArg (fun b => some (Value.bool b)) (Option.some.inj hx3)), trivial⟩, ⟨rfl, rfl, rfl, rfl, rfl, rfl, trivial⟩, rfl, hE5⟩
  ·
   have hx3 := itF hx3 c6
   refine k_yes rfl rfl ?_
   refine k_move rfl rfl ?_
   refine k_yes rfl rfl ?_
   refine k_move rfl rfl ?_
   refine k_yes rfl rfl ?_
   refine k_move rfl rfl ?_
   refine k_yes rfl rfl ?_
   obtain ⟨x4, hx4, hx3⟩ := ob hx3
   refine k_invokev (e := 70) rfl rfl methv76_Less one70 hb_t4 cal98 (keys_fronts_int_Less_w  (hwt4_0.sl) hx4) rfl ?_
   rintro s7 vr7 st7 rfl
   have szs7 := st7.size
   have hS := hS.trans0 st7
   have hE2 := hE2.trans0 st7
   have hE5 := hE5.trans0 st7
   refine k_yes rfl rfl ?_
   refine k_not rfl rfl ?_
   refine k_pickF rfl rfl rfl rfl ?_
   exact k_met ⟨s7, ⟨(congrArg (fun b => some (Value.bool b)) (Option.some.inj hx3)), trivial⟩, ⟨rfl, rfl, rfl, rfl, rfl, rfl, trivial⟩, rfl, hE5⟩
 ·
  rintro s8 wL ⟨rfl, hE5⟩
  have szs8 := hE5.size
  have hS := hS.trans0 hE5
  have hE2 := hE2.trans0 hE5
  replace hb_t4 := hb_t4.up2 hE5
  replace hwt4_0 := hwt4_0.up2 hE5
  refine k_nil ?_
  refine k_keep [(0, _), (1, _), (4, _), (17, _)] ⟨rfl, rfl, rfl, rfl, trivial⟩ ?_
  refine k_cond rfl (fun c9 => ?_) (fun c9 => ?_)
  ·
   have h := ibT h c9
   refine k_exit rfl ?_
   refine k_end ?_
   obtain rfl := Option.some.inj h
   refine ⟨_, rfl, Ret.mk hS ?_⟩
   exact ⟨rfl, (OKeysFrontsInt.mk_ x2 (by omega) hwt4_0 hb_t4)⟩
  ·
   have h := ibF h c9
   refine k_skip ?_
   refine k_seq ?_
   refine k_region ?_
   refine k_move rfl rfl ?_
   refine k_move rfl rfl ?_
   refine k_move rfl rfl ?_
   obtain ⟨x5, hx5, h⟩ := ob h
   refine k_invokev (e := 70) rfl rfl methv76_Swap one70 hb_t4 cal99 (keys_fronts_int_Swap_w  hwt4_0 (by first | assumption | omega | (simp <;> omega)) hx5) rfl ?_
   rintro s10 vr10 st10 ⟨rfl, hwt4_0⟩
   have szs10 := st10.size
   have hS := hS.c0 st10
   have hE2 := hE2.c0 st10
   replace hb_t4 := hb_t4.up2 st10
   refine k_nil ?_
   refine k_keep [(0, _), (1, _), (4, _)] ⟨rfl, rfl, rfl, trivial⟩ ?_
   refine k_region ?_
   refine k_move rfl rfl ?_
   refine k_assign rfl rfl ?_
   refine k_nil ?_
   refine k_blk ?_
   have hz11 : OKeysFrontsInt s10 k0 (.pointer (some ⟨bo0, 0, none⟩)) x5 := (OKeysFrontsInt.mk_ x5 (by omega) hwt4_0 hb_t4)
   have lehz11 := hz11.le
   have nehz11 := hz11.ne
   exact k_stop ⟨(s10, i64 ((i64 (x1 - 1)).tdiv 2), x5, j), ⟨(by first | rfl | (simp <;> rfl)), trivial⟩, ⟨rfl, trivial⟩, ⟨rfl, hE2, hz11, h⟩, (by simp)⟩

set_option maxHeartbeats 1000000 in
set_option maxRecDepth 100000 in
theorem heap_Fix_w {s : St} {k0 : Nat} {p0 : Value} {a0 : (List KeysFrontInt)} {a1 : Int} {r : (List KeysFrontInt)} (ho0 : OKeysFrontsInt s k0 p0 a0) (h : heap_Fix a0 a1 = some r) : Calls Tryd.prog 36 #[.iface 76 p0, .int .i64 a1] s.w (Ret s (KO k0) (fun s1 v => v = .tuple #[] ∧ OKeysFrontsInt s1 k0 p0 r)) := by
 unfold heap_Fix at h
 have le0 := ho0.le
 have ne0 := ho0.ne
 obtain ⟨bo0, rfl⟩ := ho0.ptr
 obtain ⟨wo0_0, hb_o0, hwo0_0⟩ := ho0.at_
 have hS := Step.r0 (KO k0) s
 refine k_fn (rs := []) (args := [.iface 76 (.pointer (some ⟨bo0, 0, none⟩)), .int .i64 a1]) Tryd.func36 rfl rfl rfl rfl ?_
 refine k_seq ?_
 refine k_region ?_
 refine k_move rfl rfl ?_
 refine k_move rfl rfl ?_
 refine k_move rfl rfl ?_
 obtain ⟨x1, hx1, h⟩ := ob h
 refine k_invokev (e := 70) rfl rfl methv76_Len one70 hb_o0 cal97 (keys_fronts_int_Len_w  (hwo0_0.sl) hx1) rfl ?_
 rintro s1 vr1 st1 rfl
 have szs1 := st1.size
 have hS := hS.trans0 st1
 replace hwo0_0 := hwo0_0.up2 st1
 replace hb_o0 := hb_o0.up2 st1
 obtain ⟨x2, hx2, h⟩ := ob h
 refine k_call cal49 rfl (heap_down_w  (OKeysFrontsInt.mk_ a0 (by omega) hwo0_0 hb_o0) hx2) rfl ?_
 rintro s2 vr2 st2 ⟨rfl, hm2_0⟩
 obtain ⟨w2_0_0, hb_2_0, hw2_0_0⟩ := hm2_0.at_
 have szs2 := st2.size
 have hS := hS.c0 st2
 refine k_not rfl rfl ?_
 refine k_nil ?_
 refine k_keep [(0, _), (1, _), (9, _)] ⟨rfl, rfl, rfl, trivial⟩ ?_
 refine k_cond rfl (fun c3 => ?_) (fun c3 => ?_)
 ·
  have h := ibT h c3
  refine k_region ?_
  refine k_move rfl rfl ?_
  refine k_move rfl rfl ?_
  obtain ⟨x3, hx3, h⟩ := ob h
  refine k_call cal50 rfl (heap_up_w  (OKeysFrontsInt.mk_ x2.2 (by omega) hw2_0_0 hb_2_0) hx3) rfl ?_
  rintro s4 vr4 st4 ⟨rfl, hm4_0⟩
  obtain ⟨w4_0_0, hb_4_0, hw4_0_0⟩ := hm4_0.at_
  have szs4 := st4.size
  have hS := hS.c0 st4
  refine k_nil ?_
  refine k_end ?_
  obtain rfl := Option.some.inj h
  refine ⟨_, rfl, Ret.mk hS ?_⟩
  exact ⟨rfl, (OKeysFrontsInt.mk_ x3 (by omega) hw4_0_0 hb_4_0)⟩
 ·
  have h := ibF h c3
  refine k_skip ?_
  refine k_end ?_
  obtain rfl := Option.some.inj h
  refine ⟨_, rfl, Ret.mk hS ?_⟩
  exact ⟨rfl, (OKeysFrontsInt.mk_ x2.2 (by omega) hw2_0_0 hb_2_0)⟩

set_option maxHeartbeats 1000000 in
set_option maxRecDepth 100000 in
theorem keys_Merge_int_1_boo_w {s : St} {l : Nat} {XT : Type} {a0 : XT → ((List UInt8) × Int) → Option (Bool × XT)} {I : XT → St → Prop} {Ky : Lab → Prop} {a50 : XT} {k1_0 : Nat} {p1_0 : Value} {a1_0 : KeysIndexInt} {k1_1 : Nat} {p1_1 : Value} {a1_1 : KeysIndexInt} {bq1 : Nat} {ub1 : Nat} {r : XT} (hY : Yielder Tryd.prog s.n l (fun (sl : St) (y : (List UInt8) × Int) (vs : List Value) => vs = [S y.1, .int .i64 y.2]) a0 I Ky) (hI : I a50 s) (ho1_0 : OKeysIndexInt s k1_0 p1_0 a1_0) (ho1_1 : OKeysIndexInt s k1_1 p1_1 a1_1) (hq1 : Blk s bq1 ⟨bq1 + 1, 0⟩ [p1_0, p1_1] 26) (hp1 : Blk s ub1 ⟨ub1 + 1, 0⟩ [.slice (some ⟨bq1, 0, none⟩) 2 2] 24) (h : keys_Merge_int_1_boo a0 a50 a1_0 a1_1 = some r) : Calls Tryd.prog 31 #[.func (.yield l) #[] #[], .pointer (some ⟨ub1, 0, none⟩)] s.w (Ret s (KB s.n Ky) (fun s1 v => v = .tuple #[] ∧ I r s1)) := by
 unfold keys_Merge_int_1_boo at h
 replace hI := Cons.of hY hI (Nat.le_refl _)
 have le1_0 := ho1_0.le
 have ne1_0 := ho1_0.ne
 have le1_1 := ho1_1.le
 have ne1_1 := ho1_1.ne
 have ltq1 := hq1.lt
 have lt1 := hp1.lt
 have hS := Step.r0 (KB s.n Ky) s
 refine k_fn (rs := []) (args := [.func (.yield l) #[] #[], .pointer (some ⟨ub1, 0, none⟩)]) Tryd.func31 rfl rfl rfl rfl ?_
 refine k_seq ?_
 refine k_region ?_
 refine k_alloc zero70 rfl ?_
 intro s1 b1 st1 h1 ge1
 have szs1 := st1.size
 have hS := hS.trans0 st1
 replace hI := hI.up2 st1
 replace ho1_0 := ho1_0.up2 st1
 replace ho1_1 := ho1_1.up2 st1
 replace hq1 := hq1.up2 st1
 replace hp1 := hp1.up2 st1
 have lt1 := h1.lt
 refine k_nil ?_
 refine k_seq ?_
 have hz2 : OKeysFrontsInt s1 (b1 + 1) (.pointer (some ⟨b1, 0, none⟩)) ([]) := (OKeysFrontsInt.mk_ ([]) (by omega) (Own.nil (by first | omega | (dsimp only; omega)) (by first | omega | (dsimp only; omega))) h1)
 have lehz2 := hz2.le
 have nehz2 := hz2.ne
 obtain ⟨kj1, hK3, h⟩ := jn_out h
 have hE3 := Step.r0 (KU (KC (b1 + 1) 2) (KC (b1 + 1) 0)) s1
 refine k_cutc (X := St × (List KeysFrontInt)) [(0, .func (.yield l) #[] #[]), (3, (.pointer (some ⟨b1, 0, none⟩)))] (fun (xL : St × (List KeysFrontInt)) => match xL with | (sl, x2) => []) (fun (xL : St × (List KeysFrontInt)) (wL : World) => match xL with | (sl, x2) => sl.w = wL ∧ Step (KU (KC (b1 + 1) 2) (KC (b1 + 1) 0)) s1 sl ∧ (Blk sl bq1 ⟨bq1 + 1, 0⟩ [p1_0, p1_1] 26) ∧ (OKeysFrontsInt sl (b1 + 1) (.pointer (some ⟨b1, 0, none⟩)) x2) ∧ kj1 x2 = some r) ?_ ?_
 ·
  refine k_seq ?_
  refine k_region ?_
  refine k_load_blk one24 rfl hp1 rfl rfl ?_
  refine k_len Tryd.underlying24 rfl ⟨_, _, rfl⟩ rfl ?_
  refine k_move rfl rfl ?_
  refine k_nil ?_
  refine k_keep [(0, _), (3, _), (9, _), (10, _), (11, _)] ⟨rfl, rfl, rfl, rfl, rfl, trivial⟩ ?_
  refine k_block ?_
  refine k_rounds 3 ?_
  refine k_round ?_
  refine k_seq ?_
  refine k_region ?_
  refine k_lss rfl rfl rfl ?_
  refine k_as (v := .bool true) rfl ?_
  refine k_nil ?_
  refine k_seq ?_
  refine k_cond_true rfl ?_
  refine k_skip ?_
  refine k_seq ?_
  obtain ⟨kj3, hK4, h⟩ := jn_out h
  have hE4 := Step.r0 (KU (KC (b1 + 1) 2) (KC (b1 + 1) 0)) s1
  refine k_cutc (X := St × Int × Bool × (List KeysFrontInt)) [(0, .func (.yield l) #[] #[]), (3, (.pointer (some ⟨b1, 0, none⟩))), (4, .int .i64 0), (5, p1_0), (9, .slice (some ⟨bq1, 0, none⟩) 2 2), (10, .int .i64 2), (11, .int .i64 0), (12, .bool true), (13, .int .i64 0), (14, .pointer (some ⟨bq1, 0, none⟩)), (15, p1_0), (16, p1_0)] (fun (xL : St × Int × Bool × (List KeysFrontInt)) => match xL with | (sl, x4, x5, x6) => [(17, .int .i64 x4), (18, .bool x5)]) (fun (xL : St × Int × Bool × (List KeysFrontInt)) (wL : World) => match xL with | (sl, x4, x5, x6) => sl.w = wL ∧ Step (KU (KC (b1 + 1) 2) (KC (b1 + 1) 0)) s1 sl ∧ (Blk sl bq1 ⟨bq1 + 1, 0⟩ [p1_0, p1_1] 26) ∧ (OKeysFrontsInt sl (b1 + 1) (.pointer (some ⟨b1, 0, none⟩)) x6) ∧ kj3 x4 x5 x6 = some r) ?_ ?_
  ·
   refine k_block ?_
   refine k_seq ?_
   refine k_region ?_
   refine k_move rfl rfl ?_
   refine k_ixaddr_raw (i := 0) Tryd.underlying24 size26 rfl rfl rfl rfl rfl ?_
   refine k_load_blk one26 rfl hq1 rfl rfl ?_
   refine k_assign rfl rfl ?_
   refine k_assign rfl rfl ?_
   refine k_nil ?_
   refine k_seq ?_
   refine k_region ?_
   refine k_move rfl rfl ?_
   obtain ⟨x7, hx7, h⟩ := ob h
   refine k_call cal28 rfl (keys_Index_int_Len_w  ho1_0 hx7) rfl ?_
   rintro s5 vr5 st5 rfl
   have szs5 := st5.size
   have hS := hS.trans0 st5
   have hE3 := hE3.trans0 st5
   have hE4 := hE4.trans0 st5
   replace ho1_0 := ho1_0.up2 st5
   replace hq1 := hq1.up2 st5
   replace hz2 := hz2.up2 st5
   refine k_gtr rfl rfl rfl ?_
   refine k_nil ?_
   refine k_cond_dec rfl (fun c6 => ?_) (fun c6 => ?_)
   ·
    have h := itT h c6
    obtain ⟨wt7_0, hb_t7, hwt7_0⟩ := hz2.at_
    refine k_drawT (KN s5.n) 7 (.read 0 (.read 1 (.read 4 (.alt 2 (.alt 3 (.read 5 (.alt 6 .fin .no)) .no) .no)))) mixed (by intro c h; (try simp only [KC, KO, KU, KN, KB] at h) <;> omega) rfl rfl rfl ?_
    intro s8 st8
    have szs8 := st8.size
    have hS := hS.trans0 st8
    have hE3 := hE3.trans0 st8
    have hE4 := hE4.trans0 st8
    replace ho1_0 := ho1_0.up2 st8
    replace hq1 := hq1.up2 st8
    replace hb_t7 := hb_t7.up2 st8
    replace hwt7_0 := hwt7_0.up2 st8
    refine rt_read (wt7_0) rfl rfl (fun s9 st9 => ?_) ?_
    ·try replace hb_t7 := hb_t7.up2 st9
     refine k_load_blk one70 rfl hb_t7 rfl rfl ?_
     exact fq_end
    refine rt_read (p1_0) rfl rfl (fun s10 st10 => ?_) ?_
    ·refine k_move rfl rfl ?_
     exact fq_end
    refine rt_read (.int .i64 0) rfl rfl (fun s11 st11 => ?_) ?_
    ·refine k_move rfl rfl ?_
     exact fq_end
    refine rt_act rfl rfl ?_
    have hA12 := Step.r0 (KN s5.n) s8
    obtain ⟨x8, hx8, h⟩ := ob h
    refine k_call cal33 rfl (keys_Index_int_rows_w  ho1_0 hx8) rfl ?_
    rintro s13 v13_0 st13 ⟨_, rfl, h13_0⟩
    have szs13 := st13.size
    have hS := hS.trans0 st13
    have hE3 := hE3.trans0 st13
    have hE4 := hE4.trans0 st13
    have hA12 := hA12.trans0 st13
    replace hq1 := hq1.up2 st13
    replace hb_t7 := hb_t7.up2 st13
    replace hwt7_0 := hwt7_0.up2 st13
    refine rt_cont hA12 ?_
    refine rt_act rfl rfl ?_
    have hA14 := Step.r0 (KN s5.n) s13
    obtain ⟨x9, hx9, h⟩ := ob h
    refine k_call cal32 rfl (slices_Clone_keys_entry_int_keys_entry_int_w  h13_0 hx9) rfl ?_
    rintro s15 v15_0 st15 ⟨_, rfl, h15_0⟩
    have szs15 := st15.size
    have hS := hS.trans0 st15
    have hE3 := hE3.trans0 st15
    have hE4 := hE4.trans0 st15
    have hA14 := hA14.trans0 st15
    replace hq1 := hq1.up2 st15
    replace hb_t7 := hb_t7.up2 st15
    replace hwt7_0 := hwt7_0.up2 st15
    refine rt_cont hA14 ?_
    refine rt_read (.agg #[v15_0, .int .i64 0]) rfl rfl (fun s16 st16 => ?_) ?_
    ·try replace h15_0 := h15_0.up2 st16
     refine k_build plc74 zero74 rfl (Parts.cons (CellsOf.sl (SL.of_R h15_0)).1 (Parts.cons (CellsOf.lit rfl rfl).1 Parts.nil)) (by rfl) rfl ?_
     refine k_as (v := .agg #[v15_0, .int .i64 0]) rfl ?_
     exact fq_end
    refine rt_act rfl rfl ?_
    have hA17 := Step.r0 (KN s5.n) s15
    refine k_bslice2 (ds := ([(⟨x9, 0⟩ : KeysFrontInt)] : List KeysFrontInt).map dKeysFrontInt) slc70 rfl (RVs.cons ⟨_, rfl, (clsKeysFrontInt (⟨x9, 0⟩ : KeysFrontInt) h15_0)⟩ RVs.nil) (by rfl) (by rfl) rfl rfl ?_
    intro s18 v18 b18 st18 ge18 bl18 h18
    have szs18 := st18.size
    have hS := hS.trans0 st18
    have hE3 := hE3.trans0 st18
    have hE4 := hE4.trans0 st18
    have hA17 := hA17.trans0 st18
    replace hq1 := hq1.up2 st18
    replace hb_t7 := hb_t7.up2 st18
    replace hwt7_0 := hwt7_0.up2 st18
    have lt18 := Own.le1 h18
    refine rt_cont hA17 ?_
    refine rt_fin ?_
    obtain ⟨x10, hx10, h⟩ := ob h
    refine k_append (es := ([(⟨x9, 0⟩ : KeysFrontInt)] : List KeysFrontInt).map dKeysFrontInt) elem70 rfl rfl hwt7_0 (h18.sl) (by have := (app_out hx10).1; simp only [List.length_map] at *; omega) (by have := (app_out hx10).1; simp only [List.length_map] at *; omega) rfl ?_
    intro s19 v19 st19 h19
    rw [← List.map_append, ← (app_out hx10).2] at h19
    have szs19 := st19.size
    have hS : Step (KB s.n Ky) s s19 := hS.comp st19 (by intro l hl hk; (try simp only [KC, KO, KU, KN, K0, KB] at hk ⊢); (repeat' (refine Or.elim hk (fun hk => ?_) (fun hk => ?_))) <;> first | exact hk | exact .inl hk | exact .inr hk | exact .inr (.inl hk) | exact .inr (.inr hk) | omega)
    have hE3 := hE3.c0 st19
    have hE4 := hE4.c0 st19
    replace hq1 := hq1.up2 st19
    replace hb_t7 := hb_t7.up2 st19
    refine k_store_c (cs' := [v19]) size70 rfl rfl hb_t7 (by first | (simp; done) | omega | (dsimp only; omega)) (CellsOf.sl (h19.sl)) rfl (by first | rfl | (simp; done) | (simp; omega)) rfl ?_
    intro s20 st20 hb_t7
    have szs20 := st20.size
    have hS : Step (KB s.n Ky) s s20 := hS.comp st20 (by intro l hl hk; (try simp only [KC, KO, KU, KN, K0, KB] at hk ⊢); (repeat' (refine Or.elim hk (fun hk => ?_) (fun hk => ?_))) <;> first | exact hk | exact .inl hk | exact .inr hk | exact .inr (.inl hk) | exact .inr (.inr hk) | omega)
    have hE3 := hE3.c0 st20
    have hE4 := hE4.c0 st20
    replace hq1 := hq1.up2 st20
    replace h19 := h19.up2 st20
    refine k_nil ?_
    refine k_blk ?_
    have hz21 : OKeysFrontsInt s20 (b1 + 1) (.pointer (some ⟨b1, 0, none⟩)) x10 := (OKeysFrontsInt.mk_ x10 (by omega) h19 hb_t7)
    have lehz21 := hz21.le
    have nehz21 := hz21.ne
    exact k_stop ⟨(s20, x7, decide (0 < x7), x10), ⟨(by first | rfl | (simp <;> rfl)), (by first | rfl | (simp <;> rfl)), trivial⟩, ⟨rfl, rfl, rfl, rfl, rfl, rfl, rfl, rfl, rfl, rfl, rfl, rfl, trivial⟩, ⟨rfl, hE4, hq1, hz21, h⟩⟩
   ·
    have h := itF h c6
    refine k_skip ?_
    refine k_blk ?_
    exact k_stop ⟨(s5, x7, decide (0 < x7), []), ⟨(by first | rfl | (simp <;> rfl)), (by first | rfl | (simp <;> rfl)), trivial⟩, ⟨rfl, rfl, rfl, rfl, rfl, rfl, rfl, rfl, rfl, rfl, rfl, rfl, trivial⟩, ⟨rfl, hE4, hq1, hz2, h⟩⟩
  ·
   rintro ⟨s22, x4, x5, x6⟩ wL ⟨rfl, hE4, hq1, hz2, h⟩
   rw [hK4] at h
   have szs22 := hE4.size
   have hS : Step (KB s.n Ky) s s22 := hS.comp hE4 (by intro l hl hk; (try simp only [KC, KO, KU, KN, K0, KB] at hk ⊢); (repeat' (refine Or.elim hk (fun hk => ?_) (fun hk => ?_))) <;> first | exact hk | exact .inl hk | exact .inr hk | exact .inr (.inl hk) | exact .inr (.inr hk) | omega)
   have hE3 := hE3.c0 hE4
   replace ho1_1 := ho1_1.up2 hE4
   refine k_region ?_
   refine k_add rfl rfl rfl ?_
   refine k_as (v := .int .i64 1) (by first | rfl | decide) ?_
   refine k_move rfl rfl ?_
   refine k_nil ?_
   refine k_stopr ?_
   refine k_round ?_
   refine k_seq ?_
   refine k_region ?_
   refine k_lss rfl rfl rfl ?_
   refine k_as (v := .bool true) rfl ?_
   refine k_nil ?_
   refine k_seq ?_
   refine k_cond_true rfl ?_
   refine k_skip ?_
   refine k_seq ?_
   obtain ⟨kj11, hK23, h⟩ := jn_out h
   have hE23 := Step.r0 (KU (KC (b1 + 1) 2) (KC (b1 + 1) 0)) s22
   refine k_cutc (X := St × Int × Bool × (List KeysFrontInt)) [(0, .func (.yield l) #[] #[]), (3, (.pointer (some ⟨b1, 0, none⟩))), (4, .int .i64 1), (5, p1_1), (9, .slice (some ⟨bq1, 0, none⟩) 2 2), (10, .int .i64 2), (11, .int .i64 1), (12, .bool true), (13, .int .i64 1), (14, .pointer (some ⟨bq1, 1, none⟩)), (15, p1_1), (16, p1_1), (27, .int .i64 1)] (fun (xL : St × Int × Bool × (List KeysFrontInt)) => match xL with | (sl, x12, x13, x14) => [(17, .int .i64 x12), (18, .bool x13)]) (fun (xL : St × Int × Bool × (List KeysFrontInt)) (wL : World) => match xL with | (sl, x12, x13, x14) => sl.w = wL ∧ Step (KU (KC (b1 + 1) 2) (KC (b1 + 1) 0)) s22 sl ∧ (Blk sl bq1 ⟨bq1 + 1, 0⟩ [p1_0, p1_1] 26) ∧ (OKeysFrontsInt sl (b1 + 1) (.pointer (some ⟨b1, 0, none⟩)) x14) ∧ kj11 x12 x13 x14 = some r) ?_ ?_
   ·
    refine k_block ?_
    refine k_seq ?_
    refine k_region ?_
    refine k_move rfl rfl ?_
    refine k_ixaddr_raw (i := 1) Tryd.underlying24 size26 rfl rfl rfl rfl rfl ?_
    refine k_load_blk one26 rfl hq1 rfl rfl ?_
    refine k_assign rfl rfl ?_
    refine k_assign rfl rfl ?_
    refine k_nil ?_
    refine k_seq ?_
    refine k_region ?_
    refine k_move rfl rfl ?_
    obtain ⟨x15, hx15, h⟩ := ob h
    refine k_call cal28 rfl (keys_Index_int_Len_w  ho1_1 hx15) rfl ?_
    rintro s24 vr24 st24 rfl
    have szs24 := st24.size
    have hS := hS.trans0 st24
    have hE3 := hE3.trans0 st24
    have hE23 := hE23.trans0 st24
    replace ho1_1 := ho1_1.up2 st24
    replace hq1 := hq1.up2 st24
    replace hz2 := hz2.up2 st24
    refine k_gtr rfl rfl rfl ?_
    refine k_nil ?_
    refine k_cond_dec rfl (fun c25 => ?_) (fun c25 => ?_)
    ·
     have h := itT h c25
     obtain ⟨wt26_0, hb_t26, hwt26_0⟩ := hz2.at_
     refine k_drawT (KN s24.n) 7 (.read 0 (.read 1 (.read 4 (.alt 2 (.alt 3 (.read 5 (.alt 6 .fin .no)) .no) .no)))) mixed (by intro c h; (try simp only [KC, KO, KU, KN, KB] at h) <;> omega) rfl rfl rfl ?_
     intro s27 st27
     have szs27 := st27.size
     have hS := hS.trans0 st27
     have hE3 := hE3.trans0 st27
     have hE23 := hE23.trans0 st27
     replace ho1_1 := ho1_1.up2 st27
     replace hq1 := hq1.up2 st27
     replace hb_t26 := hb_t26.up2 st27
     replace hwt26_0 := hwt26_0.up2 st27
     refine rt_read (wt26_0) rfl rfl (fun s28 st28 => ?_) ?_
     ·try replace hb_t26 := hb_t26.up2 st28
      refine k_load_blk one70 rfl hb_t26 rfl rfl ?_
      exact fq_end
     refine rt_read (p1_1) rfl rfl (fun s29 st29 => ?_) ?_
     ·refine k_move rfl rfl ?_
      exact fq_end
     refine rt_read (.int .i64 1) rfl rfl (fun s30 st30 => ?_) ?_
     ·refine k_move rfl rfl ?_
      exact fq_end
     refine rt_act rfl rfl ?_
     have hA31 := Step.r0 (KN s24.n) s27
     obtain ⟨x16, hx16, h⟩ := ob h
     refine k_call cal33 rfl (keys_Index_int_rows_w  ho1_1 hx16) rfl ?_
     rintro s32 v32_0 st32 ⟨_, rfl, h32_0⟩
     have szs32 := st32.size
     have hS := hS.trans0 st32
     have hE3 := hE3.trans0 st32
     have hE23 := hE23.trans0 st32
     have hA31 := hA31.trans0 st32
     replace hq1 := hq1.up2 st32
     replace hb_t26 := hb_t26.up2 st32
     replace hwt26_0 := hwt26_0.up2 st32
     refine rt_cont hA31 ?_
     refine rt_act rfl rfl ?_
     have hA33 := Step.r0 (KN s24.n) s32
     obtain ⟨x17, hx17, h⟩ := ob h
     refine k_call cal32 rfl (slices_Clone_keys_entry_int_keys_entry_int_w  h32_0 hx17) rfl ?_
     rintro s34 v34_0 st34 ⟨_, rfl, h34_0⟩
     have szs34 := st34.size
     have hS := hS.trans0 st34
     have hE3 := hE3.trans0 st34
     have hE23 := hE23.trans0 st34
     have hA33 := hA33.trans0 st34
     replace hq1 := hq1.up2 st34
     replace hb_t26 := hb_t26.up2 st34
     replace hwt26_0 := hwt26_0.up2 st34
     refine rt_cont hA33 ?_
     refine rt_read (.agg #[v34_0, .int .i64 1]) rfl rfl (fun s35 st35 => ?_) ?_
     ·try replace h34_0 := h34_0.up2 st35
      refine k_build plc74 zero74 rfl (Parts.cons (CellsOf.sl (SL.of_R h34_0)).1 (Parts.cons (CellsOf.lit rfl rfl).1 Parts.nil)) (by rfl) rfl ?_
      refine k_as (v := .agg #[v34_0, .int .i64 1]) rfl ?_
      exact fq_end
     refine rt_act rfl rfl ?_
     have hA36 := Step.r0 (KN s24.n) s34
     refine k_bslice2 (ds := ([(⟨x17, 1⟩ : KeysFrontInt)] : List KeysFrontInt).map dKeysFrontInt) slc70 rfl (RVs.cons ⟨_, rfl, (clsKeysFrontInt (⟨x17, 1⟩ : KeysFrontInt) h34_0)⟩ RVs.nil) (by rfl) (by rfl) rfl rfl ?_
     intro s37 v37 b37 st37 ge37 bl37 h37
     have szs37 := st37.size
     have hS := hS.trans0 st37
     have hE3 := hE3.trans0 st37
     have hE23 := hE23.trans0 st37
     have hA36 := hA36.trans0 st37
     replace hq1 := hq1.up2 st37
     replace hb_t26 := hb_t26.up2 st37
     replace hwt26_0 := hwt26_0.up2 st37
     have lt37 := Own.le1 h37
     refine rt_cont hA36 ?_
     refine rt_fin ?_
     obtain ⟨x18, hx18, h⟩ := ob h
     refine k_append (es := ([(⟨x17, 1⟩ : KeysFrontInt)] : List KeysFrontInt).map dKeysFrontInt) elem70 rfl rfl hwt26_0 (h37.sl) (by have := (app_out hx18).1; simp only [List.length_map] at *; omega) (by have := (app_out hx18).1; simp only [List.length_map] at *; omega) rfl ?_
     intro s38 v38 st38 h38
     rw [← List.map_append, ← (app_out hx18).2] at h38
     have szs38 := st38.size
     have hS : Step (KB s.n Ky) s s38 := hS.comp st38 (by intro l hl hk; (try simp only [KC, KO, KU, KN, K0, KB] at hk ⊢); (repeat' (refine Or.elim hk (fun hk => ?_) (fun hk => ?_))) <;> first | exact hk | exact .inl hk | exact .inr hk | exact .inr (.inl hk) | exact .inr (.inr hk) | omega)
     have hE3 := hE3.c0 st38
     have hE23 := hE23.c0 st38
     replace hq1 := hq1.up2 st38
     replace hb_t26 := hb_t26.up2 st38
     refine k_store_c (cs' := [v38]) size70 rfl rfl hb_t26 (by first | (simp; done) | omega | (dsimp only; omega)) (CellsOf.sl (h38.sl)) rfl (by first | rfl | (simp; done) | (simp; omega)) rfl ?_
     intro s39 st39 hb_t26
     have szs39 := st39.size
     have hS : Step (KB s.n Ky) s s39 := hS.comp st39 (by intro l hl hk; (try simp only [KC, KO, KU, KN, K0, KB] at hk ⊢); (repeat' (refine Or.elim hk (fun hk => ?_) (fun hk => ?_))) <;> first | exact hk | exact .inl hk | exact .inr hk | exact .inr (.inl hk) | exact .inr (.inr hk) | omega)
     have hE3 := hE3.c0 st39
     have hE23 := hE23.c0 st39
     replace hq1 := hq1.up2 st39
     replace h38 := h38.up2 st39
     refine k_nil ?_
     refine k_blk ?_
     have hz40 : OKeysFrontsInt s39 (b1 + 1) (.pointer (some ⟨b1, 0, none⟩)) x18 := (OKeysFrontsInt.mk_ x18 (by omega) h38 hb_t26)
     have lehz40 := hz40.le
     have nehz40 := hz40.ne
     exact k_stop ⟨(s39, x15, decide (0 < x15), x18), ⟨(by first | rfl | (simp <;> rfl)), (by first | rfl | (simp <;> rfl)), trivial⟩, ⟨rfl, rfl, rfl, rfl, rfl, rfl, rfl, rfl, rfl, rfl, rfl, rfl, rfl, trivial⟩, ⟨rfl, hE23, hq1, hz40, h⟩⟩
    ·
     have h := itF h c25
     refine k_skip ?_
     refine k_blk ?_
     exact k_stop ⟨(s24, x15, decide (0 < x15), x6), ⟨(by first | rfl | (simp <;> rfl)), (by first | rfl | (simp <;> rfl)), trivial⟩, ⟨rfl, rfl, rfl, rfl, rfl, rfl, rfl, rfl, rfl, rfl, rfl, rfl, rfl, trivial⟩, ⟨rfl, hE23, hq1, hz2, h⟩⟩
   ·
    rintro ⟨s41, x12, x13, x14⟩ wL ⟨rfl, hE23, hq1, hz2, h⟩
    rw [hK23] at h
    have szs41 := hE23.size
    have hS : Step (KB s.n Ky) s s41 := hS.comp hE23 (by intro l hl hk; (try simp only [KC, KO, KU, KN, K0, KB] at hk ⊢); (repeat' (refine Or.elim hk (fun hk => ?_) (fun hk => ?_))) <;> first | exact hk | exact .inl hk | exact .inr hk | exact .inr (.inl hk) | exact .inr (.inr hk) | omega)
    have hE3 := hE3.c0 hE23
    refine k_region ?_
    refine k_add rfl rfl rfl ?_
    refine k_as (v := .int .i64 2) (by first | rfl | decide) ?_
    refine k_move rfl rfl ?_
    refine k_nil ?_
    refine k_stopr ?_
    refine k_round ?_
    refine k_seq ?_
    refine k_region ?_
    refine k_lss rfl rfl rfl ?_
    refine k_as (v := .bool false) rfl ?_
    refine k_nil ?_
    refine k_seq ?_
    refine k_cond_false rfl ?_
    refine k_exit rfl ?_
    exact k_stop ⟨(s41, x14), trivial, ⟨rfl, rfl, trivial⟩, ⟨rfl, hE3, hq1, hz2, h⟩⟩
 ·
  rintro ⟨s42, x2⟩ wL ⟨rfl, hE3, hq1, hz2, h⟩
  rw [hK3] at h
  have szs42 := hE3.size
  have hS : Step (KB s.n Ky) s s42 := hS.comp hE3 (by intro l hl hk; (try simp only [KC, KO, KU, KN, K0, KB] at hk ⊢); (repeat' (refine Or.elim hk (fun hk => ?_) (fun hk => ?_))) <;> first | exact hk | exact .inl hk | exact .inr hk | exact .inr (.inl hk) | exact .inr (.inr hk) | omega)
  replace hI := hI.up2 hE3
  refine k_seq ?_
  refine k_region ?_
  refine k_makeIface conc76 rfl rfl ?_
  obtain ⟨x19, hx19, h⟩ := ob h
  refine k_call cal34 rfl (heap_Init_w  hz2 hx19) rfl ?_
  rintro s43 vr43 st43 ⟨rfl, hz2⟩
  have szs43 := st43.size
  have hS : Step (KB s.n Ky) s s43 := hS.comp st43 (by intro l hl hk; (try simp only [KC, KO, KU, KN, K0, KB] at hk ⊢); (repeat' (refine Or.elim hk (fun hk => ?_) (fun hk => ?_))) <;> first | exact hk | exact .inl hk | exact .inr hk | exact .inr (.inl hk) | exact .inr (.inr hk) | omega)
  replace hI := hI.up2 st43
  refine k_nil ?_
  refine k_keep [(0, _), (3, _)] ⟨rfl, rfl, trivial⟩ ?_
  refine k_seq ?_
  refine k_region ?_
  refine k_assign rfl rfl ?_
  refine k_assign rfl rfl ?_
  refine k_nil ?_
  refine k_block ?_
  refine k_loopc (X := St × (List UInt8) × Bool × XT × (List KeysFrontInt) × Nat) [(0, _), (3, _)] (fun (xL : St × (List UInt8) × Bool × XT × (List KeysFrontInt) × Nat) => match xL with | (sl, x20, x21, x22, x23, j) => [(6, S x20), (7, .bool x21)]) (fun (xL : St × (List UInt8) × Bool × XT × (List KeysFrontInt) × Nat) (wL : World) => match xL with | (sl, x20, x21, x22, x23, j) => sl.w = wL ∧ Step (KU (KB s.n Ky) (KU (KC (b1 + 1) 2) (KO (b1 + 1)))) s43 sl ∧ (Cons I s.n sl x22) ∧ (OKeysFrontsInt sl (b1 + 1) (.pointer (some ⟨b1, 0, none⟩)) x23) ∧ keys_Merge_int_1_boo_l1 a0 j x20 x21 x22 x23 = some r) (fun (xL : St × (List UInt8) × Bool × XT × (List KeysFrontInt) × Nat) => match xL with | (sl, x20, x21, x22, x23, j) => j) (s43, ([] : List UInt8), false, a50, x19, FU) ⟨rfl, rfl, trivial⟩ ⟨(by first | rfl | (simp <;> rfl)), (by first | rfl | (simp <;> rfl)), trivial⟩ ⟨rfl, (Step.refl _).of0 (by first | exact fun _ h => h | (intro c h; simp [KC, KO, KU, KN, KB] at h <;> omega)), hI, hz2, h⟩ ?_
  rintro ⟨s45, x20, x21, x22, x23, j⟩ wL ⟨rfl, hE44, hI, hz2, h⟩
  cases j with
  | zero => rw [keys_Merge_int_1_boo_l1] at h; exact (noneNe h).elim
  | succ j =>
  rw [keys_Merge_int_1_boo_l1] at h
  have szs45 := hE44.size
  have hS : Step (KB s.n Ky) s s45 := hS.comp hE44 (by intro l hl hk; (try simp only [KC, KO, KU, KN, K0, KB] at hk ⊢); (repeat' (refine Or.elim hk (fun hk => ?_) (fun hk => ?_))) <;> first | exact hk | exact .inl hk | exact .inr hk | exact .inr (.inl hk) | exact .inr (.inr hk) | omega)
  refine k_seq ?_
  refine k_seq ?_
  refine k_region ?_
  obtain ⟨wt46_0, hb_t46, hwt46_0⟩ := hz2.at_
  refine k_load_blk one70 rfl hb_t46 rfl rfl ?_
  refine k_len Tryd.underlying70 rfl (hwt46_0.sl).hasLen rfl ?_
  refine k_as (v := .int .i64 (x23.length : Int)) (by simp only [List.length_map]) ?_
  refine k_gtr rfl rfl rfl ?_
  refine k_nil ?_
  refine k_keep [(0, _), (3, _), (6, _), (7, _), (32, _)] ⟨rfl, rfl, rfl, rfl, rfl, trivial⟩ ?_
  refine k_cond_dec rfl (fun c47 => ?_) (fun c47 => ?_)
  ·
   have h := itT h c47
   refine k_skip ?_
   refine k_block ?_
   refine k_seq ?_
   refine k_region ?_
   refine k_load_blk one70 rfl hb_t46 rfl rfl ?_
   obtain ⟨x24, hx24, h⟩ := ob h
   refine k_ixaddr_own Tryd.underlying70 size74 rfl rfl hwt46_0 (geti_out hx24).1 (geti_map hx24) rfl ?_
   intro qx24 hqx24 heqx24
   refine k_field_own rfl (Elt.toO heqx24) hqx24 (by rfl) (by rfl) fld74_0 rfl ?_
   intro q48 h48 he48
   refine k_load_sl one62 rfl h48 rfl ?_
   intro v49 h49
   obtain ⟨x25, hx25, h⟩ := ob h
   refine k_ixaddr Tryd.underlying62 size67 rfl rfl (SL.of_R h49) (geti_out hx25).1 (geti_map hx25) rfl ?_
   intro qx25 hqx25
   refine k_load_agg (by exact agg67) rfl hqx25 rfl ?_
   intro cs50 h50
   obtain rfl := opnKeysEntryInt h50
   refine k_alloc zero67 rfl ?_
   intro s51 b51 st51 h51 ge51
   have szs51 := st51.size
   have hS := hS.trans0 st51
   have hE44 := hE44.trans0 st51
   replace hI := hI.up2 st51
   replace hb_t46 := hb_t46.up2 st51
   replace hwt46_0 := hwt46_0.up2 st51
   have lt51 := h51.lt
   refine k_store_c (cs' := [S x25.key_, .int .i64 x25.v]) size67 rfl rfl h51 (by first | (simp; done) | omega | (dsimp only; omega)) (CellsOf.lit rfl rfl) rfl (by first | rfl | (simp; done) | (simp; omega)) rfl ?_
   intro s52 st52 h51
   have szs52 := st52.size
   have hS : Step (KB s.n Ky) s s52 := hS.comp st52 (by intro l hl hk; (try simp only [KC, KO, KU, KN, K0, KB] at hk ⊢); (repeat' (refine Or.elim hk (fun hk => ?_) (fun hk => ?_))) <;> first | exact hk | exact .inl hk | exact .inr hk | exact .inr (.inl hk) | exact .inr (.inr hk) | omega)
   have hE44 : Step (KU (KB s.n Ky) (KU (KC (b1 + 1) 2) (KO (b1 + 1)))) s43 s52 := hE44.comp st52 (by intro l hl hk; (try simp only [KC, KO, KU, KN, K0, KB] at hk ⊢); (repeat' (refine Or.elim hk (fun hk => ?_) (fun hk => ?_))) <;> first | exact hk | exact .inl hk | exact .inr hk | exact .inr (.inl hk) | exact .inr (.inr hk) | omega)
   replace hI := hI.up2 st52
   replace hb_t46 := hb_t46.up2 st52
   replace hwt46_0 := hwt46_0.up2 st52
   refine k_nil ?_
   refine k_keep [(0, _), (3, _), (6, _), (7, _), (8, _)] ⟨rfl, rfl, rfl, rfl, rfl, trivial⟩ ?_
   refine k_seq ?_
   refine k_seq ?_
   refine k_region ?_
   refine k_move rfl rfl ?_
   refine k_not rfl rfl ?_
   refine k_move rfl rfl ?_
   have hE53 := Step.r0 K0 s52
   refine k_cutl (X := St) 5 [(0, .func (.yield l) #[] #[]), (3, .pointer (some ⟨b1, 0, none⟩)), (6, S x20), (7, .bool x21), (8, .pointer (some ⟨b51, 0, none⟩)), (39, .bool x21), (40, .bool (!x21))] (fun _ => [(46, .bool (decide (((!x21) = true) ∨ (x25.key_ ≠ x20))))]) (fun sl wL => sl.w = wL ∧ Step K0 s52 sl) ?_ ?_
   ·
    refine k_again 41 rfl ?_
    refine k_splitb (fun c54 => ?_) (fun c54 => ?_)
    ·
     refine k_no rfl rfl rfl rfl ?_
     refine k_no rfl rfl rfl rfl ?_
     refine k_no rfl rfl rfl rfl ?_
     refine k_no rfl rfl rfl rfl ?_
     refine k_pickT rfl rfl rfl rfl ?_
     exact k_met ⟨s52, ⟨(congrArg (fun b => some (Value.bool b)) (by first | exact decide_eq_decide.2 ⟨Or.inr, fun h => h.resolve_left c54⟩ | exact (decide_eq_true (Or.inl c54)).symm | (simp [c54]; done) | (simp [c54, i64] <;> omega))), trivial⟩, ⟨rfl, rfl, rfl, rfl, rfl, rfl, rfl, trivial⟩, rfl, hE53⟩
    ·
     refine k_yes rfl rfl ?_
     refine k_field_addr fld67_0 rfl rfl ?_
     refine k_yes rfl rfl ?_
     refine k_load_blk one9 rfl h51 rfl rfl ?_
     refine k_yes rfl rfl ?_
     refine k_move rfl rfl ?_
     refine k_yes rfl rfl ?_
     refine k_neq_str rfl rfl rfl ?_
     refine k_pickF rfl rfl rfl rfl ?_
     exact k_met ⟨s52, ⟨(congrArg (fun b => some (Value.bool b)) (by first | exact decide_eq_decide.2 ⟨Or.inr, fun h => h.resolve_left c54⟩ | exact (decide_eq_true (Or.inl c54)).symm | (simp [c54]; done) | (simp [c54, i64] <;> omega))), trivial⟩, ⟨rfl, rfl, rfl, rfl, rfl, rfl, rfl, trivial⟩, rfl, hE53⟩
   ·
    rintro s55 wL ⟨rfl, hE53⟩
    have szs55 := hE53.size
    have hS := hS.trans0 hE53
    have hE44 := hE44.trans0 hE53
    replace hI := hI.up2 hE53
    replace hb_t46 := hb_t46.up2 hE53
    replace hwt46_0 := hwt46_0.up2 hE53
    replace h51 := h51.up2 hE53
    refine k_move rfl rfl ?_
    obtain ⟨x26, hx26, h⟩ := ob h
    have hE56 := Step.r0 (KB s.n Ky) s55
    refine k_cutl (X := St) 8 [(0, .func (.yield l) #[] #[]), (3, .pointer (some ⟨b1, 0, none⟩)), (6, S x20), (7, .bool x21), (8, .pointer (some ⟨b51, 0, none⟩)), (39, .bool x21), (40, .bool (!x21)), (46, .bool (decide (((!x21) = true) ∨ (x25.key_ ≠ x20))))] (fun _ => [(55, .bool x26.1)]) (fun sl wL => sl.w = wL ∧ Step (KB s.n Ky) s55 sl ∧ Cons I s.n sl x26.2) ?_ ?_
    ·
     refine k_again 47 rfl ?_
     refine k_split (fun c57 => ?_) (fun c57 => ?_)
     ·
      have hx26 := itT hx26 c57
      refine k_yes rfl rfl ?_
      refine k_move rfl rfl ?_
      refine k_yes rfl rfl ?_
      refine k_field_addr fld67_0 rfl rfl ?_
      refine k_yes rfl rfl ?_
      refine k_load_blk one9 rfl h51 rfl rfl ?_
      refine k_yes rfl rfl ?_
      refine k_field_addr fld67_1 rfl rfl ?_
      refine k_yes rfl rfl ?_
      refine k_load_blk one3 rfl h51 rfl rfl ?_
      refine k_yes rfl rfl ?_
      obtain ⟨x27, hx27, hx26⟩ := ob hx26
      refine k_yield rfl rfl (hY.yield _ _ _ _ _ hI.2.1 hI.1 rfl hx27) rfl ?_
      rintro s58 _ st58 ⟨rfl, hI⟩
      replace hI := Cons.of hY hI (Nat.le_trans (by omega) st58.size)
      have szs58 := st58.size
      have hS : Step (KB s.n Ky) s s58 := hS.comp st58 (by intro l hl hk; (try simp only [KC, KO, KU, KN, K0, KB] at hk ⊢); (repeat' (refine Or.elim hk (fun hk => ?_) (fun hk => ?_))) <;> first | exact hk | exact .inl hk | exact .inr hk | exact .inr (.inl hk) | exact .inr (.inr hk) | omega)
      have hE44 : Step (KU (KB s.n Ky) (KU (KC (b1 + 1) 2) (KO (b1 + 1)))) s43 s58 := hE44.comp st58 (by intro l hl hk; (try simp only [KC, KO, KU, KN, K0, KB] at hk ⊢); (repeat' (refine Or.elim hk (fun hk => ?_) (fun hk => ?_))) <;> first | exact hk | exact .inl hk | exact .inr hk | exact .inr (.inl hk) | exact .inr (.inr hk) | omega)
      have hE56 : Step (KB s.n Ky) s55 s58 := hE56.comp st58 (by intro l hl hk; (try simp only [KC, KO, KU, KN, K0, KB] at hk ⊢); (repeat' (refine Or.elim hk (fun hk => ?_) (fun hk => ?_))) <;> first | exact hk | exact .inl hk | exact .inr hk | exact .inr (.inl hk) | exact .inr (.inr hk) | omega)
      refine k_yes rfl rfl ?_
      refine k_not rfl rfl ?_
      refine k_pickT rfl rfl rfl rfl ?_
      obtain rfl := Option.some.inj hx26
      exact k_met ⟨s58, ⟨rfl, trivial⟩, ⟨rfl, rfl, rfl, rfl, rfl, rfl, rfl, rfl, trivial⟩, rfl, hE56, hI⟩
     ·
      have hx26 := itF hx26 c57
      refine k_no rfl rfl rfl rfl ?_
      refine k_no rfl rfl rfl rfl ?_
      refine k_no rfl rfl rfl rfl ?_
      refine k_no rfl rfl rfl rfl ?_
      refine k_no rfl rfl rfl rfl ?_
      refine k_no rfl rfl rfl rfl ?_
      refine k_no rfl rfl rfl rfl ?_
      refine k_pickF rfl rfl rfl rfl ?_
      obtain rfl := Option.some.inj hx26
      exact k_met ⟨s55, ⟨rfl, trivial⟩, ⟨rfl, rfl, rfl, rfl, rfl, rfl, rfl, rfl, trivial⟩, rfl, hE56, hI⟩
    ·
     rintro s59 wL ⟨rfl, hE56, hI⟩
     have szs59 := hE56.size
     have hS : Step (KB s.n Ky) s s59 := hS.comp hE56 (by intro l hl hk; (try simp only [KC, KO, KU, KN, K0, KB] at hk ⊢); (repeat' (refine Or.elim hk (fun hk => ?_) (fun hk => ?_))) <;> first | exact hk | exact .inl hk | exact .inr hk | exact .inr (.inl hk) | exact .inr (.inr hk) | omega)
     have hE44 : Step (KU (KB s.n Ky) (KU (KC (b1 + 1) 2) (KO (b1 + 1)))) s43 s59 := hE44.comp hE56 (by intro l hl hk; (try simp only [KC, KO, KU, KN, K0, KB] at hk ⊢); (repeat' (refine Or.elim hk (fun hk => ?_) (fun hk => ?_))) <;> first | exact hk | exact .inl hk | exact .inr hk | exact .inr (.inl hk) | exact .inr (.inr hk) | omega)
     replace hb_t46 := hb_t46.up2 hE56
     replace hwt46_0 := hwt46_0.up2 hE56
     replace h51 := h51.up2 hE56
     refine k_nil ?_
     refine k_keep [(0, _), (3, _), (6, _), (7, _), (8, _), (55, _)] ⟨rfl, rfl, rfl, rfl, rfl, rfl, trivial⟩ ?_
     refine k_cond rfl (fun c60 => ?_) (fun c60 => ?_)
     ·
      have h := ibT h c60
      refine k_ret ?_
      obtain rfl := Option.some.inj h
      refine ⟨_, rfl, Ret.mk hS ?_⟩
      exact ⟨rfl, hI.1⟩
     ·
      have h := ibF h c60
      refine k_skip ?_
      refine k_seq ?_
      refine k_region ?_
      refine k_field_addr fld67_0 rfl rfl ?_
      refine k_load_blk one9 rfl h51 rfl rfl ?_
      refine k_assign rfl rfl ?_
      refine k_assign rfl rfl ?_
      refine k_nil ?_
      refine k_keep [(0, _), (3, _), (6, _), (7, _)] ⟨rfl, rfl, rfl, rfl, trivial⟩ ?_
      refine k_seq ?_
      refine k_drawT (KN s59.n) 6 (.read 0 (.read 1 (.read 2 (.read 3 (.read 4 (.alt 5 .fin .no)))))) mixed (by intro c h; (try simp only [KC, KO, KU, KN, KB] at h) <;> omega) rfl rfl rfl ?_
      intro s61 st61
      have szs61 := st61.size
      have hS := hS.trans0 st61
      have hE44 := hE44.trans0 st61
      replace hI := hI.up2 st61
      replace hb_t46 := hb_t46.up2 st61
      replace hwt46_0 := hwt46_0.up2 st61
      refine rt_read (wt46_0) rfl rfl (fun s62 st62 => ?_) ?_
      ·try replace hb_t46 := hb_t46.up2 st62
       refine k_load_blk one70 rfl hb_t46 rfl rfl ?_
       exact fq_end
      refine rt_read (wt46_0) rfl rfl (fun s63 st63 => ?_) ?_
      ·try replace hb_t46 := hb_t46.up2 st63
       refine k_load_blk one70 rfl hb_t46 rfl rfl ?_
       exact fq_end
      obtain ⟨x28, hx28, h⟩ := ob h
      refine rt_ix rfl (wanted_none rfl) Tryd.underlying70 size74 rfl rfl (hwt46_0.sl) (geti_out hx28).1 (geti_map hx28) rfl ?_
      intro q64 hq64
      refine rt_fa rfl (wanted_none rfl) rfl hq64 (by rfl) fld74_0 rfl ?_
      intro q65 h65
      refine rt_ldsl rfl (wanted_none rfl) one62 rfl h65 (by first | exact id | (simp only [KC, KO, KU, KN, KB] <;> omega)) rfl ?_
      intro v66 h66
      refine rt_act rfl rfl ?_
      have hA67 := Step.r0 (KN s59.n) s61
      obtain ⟨x29, hx29, h⟩ := ob h
      refine k_cut_sl (i := (1 : Int).toNat) (j := ((x28.l.length : Int) : Int).toNat) Tryd.underlying62 size67 rfl (SL.of_R h66) (CutAt.int rfl (subl_out hx29).1) (CutAt.len (by rw [List.length_map]; rfl)) (subl_ij hx29) (by rw [List.length_map]; exact subl_j hx29) rfl ?_
      intro vx29 hcx29
      rw [← List.map_drop, ← List.map_take, ← (subl_out hx29).2.2.2] at hcx29
      have hcx29 := R.of_SL hcx29
      refine rt_cont hA67 ?_
      refine rt_fin ?_
      obtain ⟨x30, hx30, h⟩ := ob h
      refine k_ixaddr_own Tryd.underlying70 size74 rfl rfl hwt46_0 (geti_out hx30).1 (geti_map hx30) rfl ?_
      intro qx30 hqx30 heqx30
      refine k_field_own rfl (Elt.toO heqx30) hqx30 (by rfl) (by rfl) fld74_0 rfl ?_
      intro q68 h68 he68
      refine k_store_part (dd := dKeysFrontInt ({ x30 with l := x29 } : KeysFrontInt)) size62 rfl rfl hwt46_0 he68 (by rw [List.length_map]; exact (List.getElem?_eq_some_iff.1 (geti_out hx30).2.2).1) (CellsOf.sl (SL.of_R hcx29)) rfl rfl (fun cs _ hcs => by rw [List.getElem_map, getElem_geti hx30] at hcs; obtain ⟨_, rfl, hz0⟩ := opnKeysFrontInt hcs; exact clsKeysFrontInt ({ x30 with l := x29 } : KeysFrontInt) hcx29) ?_
      intro s69 st69 hwt46_0
      rw [← List.map_set] at hwt46_0
      have szs69 := st69.size
      have hS : Step (KB s.n Ky) s s69 := hS.comp st69 (by intro l hl hk; (try simp only [KC, KO, KU, KN, K0, KB] at hk ⊢); (repeat' (refine Or.elim hk (fun hk => ?_) (fun hk => ?_))) <;> first | exact hk | exact .inl hk | exact .inr hk | exact .inr (.inl hk) | exact .inr (.inr hk) | omega)
      have hE44 : Step (KU (KB s.n Ky) (KU (KC (b1 + 1) 2) (KO (b1 + 1)))) s43 s69 := hE44.comp st69 (by intro l hl hk; (try simp only [KC, KO, KU, KN, K0, KB] at hk ⊢); (repeat' (refine Or.elim hk (fun hk => ?_) (fun hk => ?_))) <;> first | exact hk | exact .inl hk | exact .inr hk | exact .inr (.inl hk) | exact .inr (.inr hk) | omega)
      replace hI := hI.up2 st69
      replace hb_t46 := hb_t46.up2 st69
      refine k_nil ?_
      refine k_keep [(0, _), (3, _), (6, _), (7, _)] ⟨rfl, rfl, rfl, rfl, trivial⟩ ?_
      refine k_seq ?_
      refine k_region ?_
      refine k_load_blk one70 rfl hb_t46 rfl rfl ?_
      obtain ⟨x31, hx31, h⟩ := ob h
      refine k_ixaddr_own Tryd.underlying70 size74 rfl rfl hwt46_0 (geti_out hx31).1 (geti_map hx31) rfl ?_
      intro qx31 hqx31 heqx31
      refine k_field_own rfl (Elt.toO heqx31) hqx31 (by rfl) (by rfl) fld74_0 rfl ?_
      intro q70 h70 he70
      refine k_load_sl one62 rfl h70 rfl ?_
      intro v71 h71
      refine k_len Tryd.underlying62 rfl (SL.of_R h71).hasLen rfl ?_
      refine k_as (v := .int .i64 (x31.l.length : Int)) (by simp only [List.length_map]) ?_
      refine k_eql rfl rfl rfl ?_
      refine k_nil ?_
      refine k_keep [(0, _), (3, _), (6, _), (7, _), (71, _)] ⟨rfl, rfl, rfl, rfl, rfl, trivial⟩ ?_
      refine k_cond_dec rfl (fun c72 => ?_) (fun c72 => ?_)
      ·
       have h := itT h c72
       refine k_region ?_
       refine k_makeIface conc76 rfl rfl ?_
       obtain ⟨x32, hx32, h⟩ := ob h
       refine k_call cal35 rfl (heap_Pop_w  (OKeysFrontsInt.mk_ (x23.set (0 : Int).toNat ({ x30 with l := x29 } : KeysFrontInt)) (by omega) hwt46_0 hb_t46) hx32) rfl ?_
       rintro s73 v73_0 st73 ⟨_, rfl, h73_0, hm73_0⟩
       obtain ⟨w73_0_0, hb_73_0, hw73_0_0⟩ := hm73_0.at_
       have szs73 := st73.size
       have hS : Step (KB s.n Ky) s s73 := hS.comp st73 (by intro l hl hk; (try simp only [KC, KO, KU, KN, K0, KB] at hk ⊢); (repeat' (refine Or.elim hk (fun hk => ?_) (fun hk => ?_))) <;> first | exact hk | exact .inl hk | exact .inr hk | exact .inr (.inl hk) | exact .inr (.inr hk) | omega)
       have hE44 : Step (KU (KB s.n Ky) (KU (KC (b1 + 1) 2) (KO (b1 + 1)))) s43 s73 := hE44.comp st73 (by intro l hl hk; (try simp only [KC, KO, KU, KN, K0, KB] at hk ⊢); (repeat' (refine Or.elim hk (fun hk => ?_) (fun hk => ?_))) <;> first | exact hk | exact .inl hk | exact .inr hk | exact .inr (.inl hk) | exact .inr (.inr hk) | omega)
       replace hI := hI.up2 st73
       refine k_nil ?_
       refine k_blk ?_
       have hz74 : OKeysFrontsInt s73 (b1 + 1) (.pointer (some ⟨b1, 0, none⟩)) x32.2 := (OKeysFrontsInt.mk_ x32.2 (by omega) hw73_0_0 hb_73_0)
       have lehz74 := hz74.le
       have nehz74 := hz74.ne
       exact k_stop ⟨(s73, x25.key_, true, x26.2, x32.2, j), ⟨(by first | rfl | (simp <;> rfl)), (by first | rfl | (simp <;> rfl)), trivial⟩, ⟨rfl, rfl, trivial⟩, ⟨rfl, hE44, hI, hz74, h⟩, (by simp)⟩
      ·
       have h := itF h c72
       refine k_region ?_
       refine k_makeIface conc76 rfl rfl ?_
       obtain ⟨x33, hx33, h⟩ := ob h
       refine k_call cal36 rfl (heap_Fix_w  (OKeysFrontsInt.mk_ (x23.set (0 : Int).toNat ({ x30 with l := x29 } : KeysFrontInt)) (by omega) hwt46_0 hb_t46) hx33) rfl ?_
       rintro s75 vr75 st75 ⟨rfl, hm75_0⟩
       obtain ⟨w75_0_0, hb_75_0, hw75_0_0⟩ := hm75_0.at_
       have szs75 := st75.size
       have hS : Step (KB s.n Ky) s s75 := hS.comp st75 (by intro l hl hk; (try simp only [KC, KO, KU, KN, K0, KB] at hk ⊢); (repeat' (refine Or.elim hk (fun hk => ?_) (fun hk => ?_))) <;> first | exact hk | exact .inl hk | exact .inr hk | exact .inr (.inl hk) | exact .inr (.inr hk) | omega)
       have hE44 : Step (KU (KB s.n Ky) (KU (KC (b1 + 1) 2) (KO (b1 + 1)))) s43 s75 := hE44.comp st75 (by intro l hl hk; (try simp only [KC, KO, KU, KN, K0, KB] at hk ⊢); (repeat' (refine Or.elim hk (fun hk => ?_) (fun hk => ?_))) <;> first | exact hk | exact .inl hk | exact .inr hk | exact .inr (.inl hk) | exact .inr (.inr hk) | omega)
       replace hI := hI.up2 st75
       refine k_nil ?_
       refine k_blk ?_
       have hz76 : OKeysFrontsInt s75 (b1 + 1) (.pointer (some ⟨b1, 0, none⟩)) x33 := (OKeysFrontsInt.mk_ x33 (by omega) hw75_0_0 hb_75_0)
       have lehz76 := hz76.le
       have nehz76 := hz76.ne
       exact k_stop ⟨(s75, x25.key_, true, x26.2, x33, j), ⟨(by first | rfl | (simp <;> rfl)), (by first | rfl | (simp <;> rfl)), trivial⟩, ⟨rfl, rfl, trivial⟩, ⟨rfl, hE44, hI, hz76, h⟩, (by simp)⟩
  ·
   have h := itF h c47
   refine k_exit rfl ?_
   refine k_end ?_
   obtain rfl := Option.some.inj h
   refine ⟨_, rfl, Ret.mk hS ?_⟩
   exact ⟨rfl, hI.1⟩

set_option maxHeartbeats 1000000 in
set_option maxRecDepth 100000 in
theorem law12_row_c31qoo_w {s : St} {ub0_0 : Nat} {k0_0_0 : Nat} {p0_0_0 : Value} {a0_0_0 : KeysIndexInt} {k0_0_1 : Nat} {p0_0_1 : Value} {a0_0_1 : KeysIndexInt} {bq0_0 : Nat} {a1 : Int} {r : (List Ref12Entry)} (ho0_0_0 : OKeysIndexInt s k0_0_0 p0_0_0 a0_0_0) (ho0_0_1 : OKeysIndexInt s k0_0_1 p0_0_1 a0_0_1) (hq0_0 : Blk s bq0_0 ⟨bq0_0 + 1, 0⟩ [p0_0_0, p0_0_1] 26) (hp0_0 : Blk s ub0_0 ⟨ub0_0 + 1, 0⟩ [.slice (some ⟨bq0_0, 0, none⟩) 2 2] 24) (h : law12_row_c31qoo a0_0_0 a0_0_1 a1 = some r) : Calls Tryd.prog 15 #[.func (.func 31) #[] #[.pointer (some ⟨ub0_0, 0, none⟩)], .int .i64 a1] s.w (Ret s K0 (fun s1 v => ∃ (u0 : Value), v = u0 ∧ R s1 u0 (.sl 2 (r.map dRef12Entry)))) := by
 unfold law12_row_c31qoo at h
 have le0_0_0 := ho0_0_0.le
 have ne0_0_0 := ho0_0_0.ne
 have le0_0_1 := ho0_0_1.le
 have ne0_0_1 := ho0_0_1.ne
 have ltq0_0 := hq0_0.lt
 have lt0_0 := hp0_0.lt
 have hS := Step.r0 K0 s
 refine k_fn_m (args := [.func (.func 31) #[] #[.pointer (some ⟨ub0_0, 0, none⟩)], .int .i64 a1]) Tryd.func15 rfl rfl ?_
 refine rk_seq ?_
 refine rk_run ?_
 refine k_region ?_
 refine k_box rfl rfl ?_
 intro s1 b1 st1 h1 ge1
 have szs1 := st1.size
 have hS := hS.trans0 st1
 replace hp0_0 := hp0_0.up2 st1
 replace ho0_0_0 := ho0_0_0.up2 st1
 replace ho0_0_1 := ho0_0_1.up2 st1
 replace hq0_0 := hq0_0.up2 st1
 have lt1 := h1.lt
 refine k_assign rfl rfl ?_
 refine k_nil ?_
 refine k_stop ?_
 refine rk_seq ?_
 refine rk_run ?_
 refine k_region ?_
 refine k_alloc zero28 rfl ?_
 intro s2 b2 st2 h2 ge2
 have szs2 := st2.size
 have hS := hS.trans0 st2
 replace hp0_0 := hp0_0.up2 st2
 replace ho0_0_0 := ho0_0_0.up2 st2
 replace ho0_0_1 := ho0_0_1.up2 st2
 replace hq0_0 := hq0_0.up2 st2
 replace h1 := h1.up2 st2
 have lt2 := h2.lt
 refine k_nil ?_
 refine k_stop ?_
 refine rk_seq ?_
 refine rk_run ?_
 refine k_seq ?_
 refine k_region ?_
 refine k_move rfl rfl ?_
 refine k_eql_fnil Tryd.underlying38 rfl rfl rfl ?_
 refine k_nil ?_
 refine k_keep [(0, _), (3, _), (4, _), (5, _), (9, _)] ⟨rfl, rfl, rfl, rfl, rfl, trivial⟩ ?_
 refine k_cond_false rfl ?_
 refine k_skip ?_
 refine k_stop ?_
 refine rk_seq ?_
 refine rk_seq ?_
 refine rk_run ?_
 refine k_region ?_
 refine k_move rfl rfl ?_
 refine k_nil ?_
 refine k_stop ?_
 have h4 : Own s2 ⟨b2 + 1, 7⟩ 55 2 (.slice none 0 0) (([] : List Ref12Entry).map dRef12Entry) := Own.nil (by first | (simp; done) | omega | (dsimp only; omega)) (by first | (simp; done) | omega | (dsimp only; omega))
 obtain ⟨x4, hx4, h⟩ := ob h
 refine rk_range (A := ((List UInt8) × Int)) (X := (List Ref12Entry)) (ps := [12, 13]) (fun (sl : St) (y : (List UInt8) × Int) (vs : List Value) => vs = [S y.1, .int .i64 y.2]) (fun (x1 : (List Ref12Entry)) (x2 : ((List UInt8) × Int)) => if (0 ≤ a1) ∧ (a1 ≤ (x1.length : Int)) then some (false, x1) else (app 5864062014805 x1 ([(⟨x2.1, x2.2⟩ : Ref12Entry)] : List Ref12Entry)).bind fun x5 => some (true, x5)) (fun (xL : (List Ref12Entry)) (sl : St) => ∃ v5 : Value, (Own sl ⟨b2 + 1, 7⟩ 55 2 v5 (xL.map dRef12Entry)) ∧ (Blk sl b2 ⟨b2 + 1, 0⟩ [v5] 28) ∧ (OKeysIndexInt sl k0_0_0 p0_0_0 a0_0_0) ∧ (OKeysIndexInt sl k0_0_1 p0_0_1 a0_0_1) ∧ (Blk sl bq0_0 ⟨bq0_0 + 1, 0⟩ [p0_0_0, p0_0_1] 26) ∧ (Blk sl b1 ⟨b1 + 1, 0⟩ [.int .i64 a1] 3)) (KU (KC (b2 + 1) 7) (KC (b2 + 1) 0)) rfl cal31 (fun _ _ _ h => by obtain rfl := h; rfl) (by decide) (by intro lab h; (try simp only [KC, KO, KU, KN, K0, KB] at h); first | exact h.elim | omega) ([]) x4 ⟨(.slice none 0 0), h4, h2, ho0_0_0, ho0_0_1, hq0_0, h1⟩ (by rintro x t1 t2 K ⟨v5, z0, z1, z2, z3, z4, z5⟩ st hK; exact ⟨v5, z0.up st (fun hk => by have hq := hK _ hk; (try dsimp only at hq); omega), z1.up st (fun hk => by have hq := hK _ hk; (try dsimp only at hq); omega), OKeysIndexInt.up2 z2 st (fun _ hk => by have hq := hK _ hk; (try dsimp only at hq); omega), OKeysIndexInt.up2 z3 st (fun _ hk => by have hq := hK _ hk; (try dsimp only at hq); omega), z4.up st (fun hk => by have hq := hK _ hk; (try dsimp only at hq); omega), z5.up st (fun hk => by have hq := hK _ hk; (try dsimp only at hq); omega)⟩) ?_ ?_ ?_
 ·
  intro l rec sR3 x1 x2 vsR rR3 hl1 hl2 hrec
  rintro ⟨v5, h5, h2, ho0_0_0, ho0_0_1, hq0_0, h1⟩ hL henc hc3
  obtain rfl := henc
  try dsimp only at hc3
  have hRS3 := Step.r0 (KU (KC (l + 1) 0) (KU (KC (b2 + 1) 7) (KC (b2 + 1) 0))) sR3
  refine k_seq ?_
  refine k_region ?_
  refine k_assign rfl rfl ?_
  refine k_nil ?_
  refine k_keep [(3, _), (5, _), (6, _), (13, _)] ⟨rfl, rfl, rfl, rfl, trivial⟩ ?_
  refine k_region ?_
  refine k_assign rfl rfl ?_
  refine k_nil ?_
  refine k_stop ?_
  refine k_begin hL hrec ?_
  intro s6 st6 hL
  have szs6 := st6.size
  have hRS3 := hRS3.c0 st6
  replace ho0_0_0 := ho0_0_0.up2 st6
  replace ho0_0_1 := ho0_0_1.up2 st6
  replace hq0_0 := hq0_0.up2 st6
  replace h1 := h1.up2 st6
  replace h2 := h2.up2 st6
  replace h5 := h5.up2 st6
  refine k_keep [(3, _), (5, _), (6, _), (7, _)] ⟨rfl, rfl, rfl, rfl, trivial⟩ ?_
  refine k_block ?_
  refine k_seq ?_
  refine k_seq ?_
  refine k_region ?_
  refine k_load_blk one3 rfl h1 rfl rfl ?_
  refine k_geq rfl rfl rfl ?_
  refine k_move rfl rfl ?_
  have hE7 := Step.r0 K0 s6
  refine k_cutl (X := St) 5 [(3, .pointer (some ⟨b1, 0, none⟩)), (5, .pointer (some ⟨b2, 0, none⟩)), (6, S x2.1), (7, .int .i64 x2.2), (14, .int .i64 a1), (15, .bool (decide (0 ≤ a1)))] (fun _ => [(21, .bool (decide ((0 ≤ a1) ∧ (a1 ≤ (x1.length : Int)))))]) (fun sl wL => sl.w = wL ∧ Step K0 s6 sl) ?_ ?_
  ·
   refine k_again 16 rfl ?_
   refine k_split (fun c8 => ?_) (fun c8 => ?_)
   ·
    refine k_yes rfl rfl ?_
    refine k_load_blk one28 rfl h2 rfl rfl ?_
    refine k_yes rfl rfl ?_
    refine k_len Tryd.underlying28 rfl (h5.sl).hasLen rfl ?_
    refine k_as (v := .int .i64 (x1.length : Int)) (by simp only [List.length_map]) ?_
    refine k_yes rfl rfl ?_
    refine k_load_blk one3 rfl h1 rfl rfl ?_
    refine k_yes rfl rfl ?_
    refine k_geq rfl rfl rfl ?_
    refine k_pickT rfl rfl rfl rfl ?_
    exact k_met ⟨s6, ⟨(congrArg (fun b => some (Value.bool b)) (by first | exact decide_eq_decide.2 ⟨fun h => ⟨c8, h⟩, fun h => h.2⟩ | exact (decide_eq_false (fun h => c8 h.1)).symm | (simp [c8]; done) | (simp [c8, i64] <;> omega))), trivial⟩, ⟨rfl, rfl, rfl, rfl, rfl, rfl, trivial⟩, rfl, hE7⟩
   ·
    refine k_no rfl rfl rfl rfl ?_
    refine k_no rfl rfl rfl rfl ?_
    refine k_no rfl rfl rfl rfl ?_
    refine k_no rfl rfl rfl rfl ?_
    refine k_pickF rfl rfl rfl rfl ?_
    exact k_met ⟨s6, ⟨(congrArg (fun b => some (Value.bool b)) (by first | exact decide_eq_decide.2 ⟨fun h => ⟨c8, h⟩, fun h => h.2⟩ | exact (decide_eq_false (fun h => c8 h.1)).symm | (simp [c8]; done) | (simp [c8, i64] <;> omega))), trivial⟩, ⟨rfl, rfl, rfl, rfl, rfl, rfl, trivial⟩, rfl, hE7⟩
  ·
   rintro s9 wL ⟨rfl, hE7⟩
   have szs9 := hE7.size
   have hRS3 := hRS3.trans0 hE7
   replace ho0_0_0 := ho0_0_0.up2 hE7
   replace ho0_0_1 := ho0_0_1.up2 hE7
   replace hq0_0 := hq0_0.up2 hE7
   replace h1 := h1.up2 hE7
   replace h2 := h2.up2 hE7
   replace h5 := h5.up2 hE7
   replace hL := hL.up2 hE7
   refine k_nil ?_
   refine k_keep [(5, _), (6, _), (7, _), (21, _)] ⟨rfl, rfl, rfl, rfl, trivial⟩ ?_
   refine k_cond_dec rfl (fun c10 => ?_) (fun c10 => ?_)
   ·
    have hc3 := itT hc3 c10
    refine k_exit_out ?_ rfl
    obtain rfl := Option.some.inj hc3
    exact ⟨rfl, rfl, s9, rfl, hRS3, hL, ⟨v5, h5, h2, ho0_0_0, ho0_0_1, hq0_0, h1⟩⟩
   ·
    have hc3 := itF hc3 c10
    refine k_skip ?_
    refine k_region ?_
    refine k_load_blk one28 rfl h2 rfl rfl ?_
    refine k_move rfl rfl ?_
    refine k_move rfl rfl ?_
    refine k_build plc55 zero55 rfl (Parts.cons (CellsOf.lit rfl rfl).1 (Parts.cons (CellsOf.lit rfl rfl).1 Parts.nil)) (by rfl) rfl ?_
    refine k_as (v := .agg #[S x2.1, .int .i64 x2.2]) rfl ?_
    refine k_bslice2 (ds := ([(⟨x2.1, x2.2⟩ : Ref12Entry)] : List Ref12Entry).map dRef12Entry) slc28 rfl (RVs.cons ⟨_, rfl, (clsRef12Entry (⟨x2.1, x2.2⟩ : Ref12Entry))⟩ RVs.nil) (by rfl) (by rfl) rfl rfl ?_
    intro s11 v11 b11 st11 ge11 bl11 h11
    have szs11 := st11.size
    have hRS3 := hRS3.trans0 st11
    replace ho0_0_0 := ho0_0_0.up2 st11
    replace ho0_0_1 := ho0_0_1.up2 st11
    replace hq0_0 := hq0_0.up2 st11
    replace h1 := h1.up2 st11
    replace h2 := h2.up2 st11
    replace h5 := h5.up2 st11
    replace hL := hL.up2 st11
    have lt11 := Own.le1 h11
    obtain ⟨x5, hx5, hc3⟩ := ob hc3
    refine k_append (es := ([(⟨x2.1, x2.2⟩ : Ref12Entry)] : List Ref12Entry).map dRef12Entry) elem28 rfl rfl h5 (h11.sl) (by have := (app_out hx5).1; simp only [List.length_map] at *; omega) (by have := (app_out hx5).1; simp only [List.length_map] at *; omega) rfl ?_
    intro s12 v12 st12 h12
    rw [← List.map_append, ← (app_out hx5).2] at h12
    have szs12 := st12.size
    have hRS3 := hRS3.c0 st12
    replace ho0_0_0 := ho0_0_0.up2 st12
    replace ho0_0_1 := ho0_0_1.up2 st12
    replace hq0_0 := hq0_0.up2 st12
    replace h1 := h1.up2 st12
    replace h2 := h2.up2 st12
    replace hL := hL.up2 st12
    refine k_store_c (cs' := [v12]) size28 rfl rfl h2 (by first | (simp; done) | omega | (dsimp only; omega)) (CellsOf.sl (h12.sl)) rfl (by first | rfl | (simp; done) | (simp; omega)) rfl ?_
    intro s13 st13 h2
    have szs13 := st13.size
    have hRS3 := hRS3.c0 st13
    replace ho0_0_0 := ho0_0_0.up2 st13
    replace ho0_0_1 := ho0_0_1.up2 st13
    replace hq0_0 := hq0_0.up2 st13
    replace h1 := h1.up2 st13
    replace h12 := h12.up2 st13
    replace hL := hL.up2 st13
    refine k_nil ?_
    refine k_blk ?_
    refine k_end ?_
    obtain rfl := Option.some.inj hc3
    exact ⟨rfl, s13, rfl, hRS3, hL, ⟨v12, h12, h2, ho0_0_0, ho0_0_1, hq0_0, h1⟩⟩
 ·
  intro l t1 I' Ky st hl1 hl2 hK1 hK2 hY hI'
  have ltb_ub0_0 := hp0_0.lt
  exact keys_Merge_int_1_boo_w hY hI' (ho0_0_0.up2 st) (ho0_0_1.up2 st) (hq0_0.up2 st) (hp0_0.up2 st) hx4
 ·
  intro D3 s14 stn3
  rintro ⟨v5, h5, h2, ho0_0_0, ho0_0_1, hq0_0, h1⟩ hM3 hD3
  have szs14 := stn3.size
  have hS := hS.c0 stn3
  refine rk_last ?_
  refine k_keep [(4, _), (5, _)] ⟨rfl, rfl, trivial⟩ ?_
  refine k_seq ?_
  refine k_region ?_
  refine k_load_blk one28 rfl h2 rfl rfl ?_
  refine k_assign rfl rfl ?_
  refine k_nil ?_
  refine k_keep [(4, _)] ⟨rfl, trivial⟩ ?_
  refine k_ret ?_
  refine re_ret ?_
  refine re_cons hM3 (fun s15 st15 => ?_)
  have szs15 := st15.size
  have hS := hS.c0 st15
  replace h5 := h5.up2 st15
  obtain ⟨s16, e16, st16, h16⟩ := h5.freeze
  rw [← e16]
  have szs16 := st16.size
  have hS := hS.c0 st16
  obtain rfl := Option.some.inj h
  refine re_nil (rs := [4]) rfl rfl ?_
  refine ⟨_, rfl, Ret.mk hS ?_⟩
  exact ⟨_, rfl, h16⟩

set_option maxHeartbeats 1000000 in
set_option maxRecDepth 100000 in
theorem law12_awake_w {s : St}  {r : Bool} (tb0 : Tab0 s) (h : law12_awake = some r) : Calls Tryd.prog 9 #[] s.w (Ret s K0 (fun s1 v => v = .bool r)) := by
 unfold law12_awake at h
 have hS := Step.r0 K0 s
 refine k_fn (rs := [0]) (args := []) Tryd.func9 rfl rfl rfl rfl ?_
 refine k_seq ?_
 refine k_region ?_
 refine k_assign rfl rfl ?_
 refine k_nil ?_
 refine k_seq ?_
 refine k_region ?_
 obtain ⟨x1, hx1, h⟩ := ob h
 refine k_call cal10 rfl (keys_New_int_w   hx1) rfl ?_
 rintro s1 v1_0 st1 ⟨ku1_0, _, rfl, hk1_0, h1_0⟩
 have szs1 := st1.size
 have hS := hS.trans0 st1
 replace tb0 := tb0.up2 st1
 have le1_0 := h1_0.le
 have ne1_0 := h1_0.ne
 refine k_assign rfl rfl ?_
 refine k_nil ?_
 refine k_keep [(0, _), (1, _)] ⟨rfl, rfl, trivial⟩ ?_
 refine k_seq ?_
 refine k_region ?_
 refine k_move rfl rfl ?_
 obtain ⟨x2, hx2, h⟩ := ob h
 refine k_call cal11 rfl (keys_Index_int_Set_w  h1_0 hx2) rfl ?_
 rintro s2 vr2 st2 ⟨rfl, h1_0⟩
 have szs2 := st2.size
 have hS := hS.c0 st2
 replace tb0 := tb0.up2 st2
 refine k_move rfl rfl ?_
 obtain ⟨x3, hx3, h⟩ := ob h
 refine k_call cal11 rfl (keys_Index_int_Set_w  h1_0 hx3) rfl ?_
 rintro s3 vr3 st3 ⟨rfl, h1_0⟩
 have szs3 := st3.size
 have hS := hS.c0 st3
 replace tb0 := tb0.up2 st3
 refine k_move rfl rfl ?_
 obtain ⟨x4, hx4, h⟩ := ob h
 refine k_call cal11 rfl (keys_Index_int_Set_w  h1_0 hx4) rfl ?_
 rintro s4 vr4 st4 ⟨rfl, h1_0⟩
 have szs4 := st4.size
 have hS := hS.c0 st4
 replace tb0 := tb0.up2 st4
 refine k_assign rfl rfl ?_
 refine k_assign rfl rfl ?_
 refine k_assign rfl rfl ?_
 refine k_nil ?_
 refine k_keep [(0, _), (1, _), (2, _), (3, _), (4, _)] ⟨rfl, rfl, rfl, rfl, rfl, trivial⟩ ?_
 refine k_seq ?_
 refine k_region ?_
 refine k_move rfl rfl ?_
 obtain ⟨x5, hx5, h⟩ := ob h
 refine k_call cal24 rfl (keys_Index_int_Keys_w  h1_0 hx5) rfl ?_
 rintro s5 v5_0 st5 ⟨_, rfl, h5_0⟩
 have szs5 := st5.size
 have hS := hS.trans0 st5
 replace h1_0 := h1_0.up2 st5
 replace tb0 := tb0.up2 st5
 refine k_assign rfl rfl ?_
 refine k_nil ?_
 refine k_keep [(0, _), (1, _), (2, _), (3, _), (4, _), (5, _)] ⟨rfl, rfl, rfl, rfl, rfl, rfl, trivial⟩ ?_
 refine k_seq ?_
 refine k_region ?_
 refine k_move rfl rfl ?_
 obtain ⟨x6, hx6, h⟩ := ob h
 refine k_call cal23 rfl (keys_Index_int_Get_w  h1_0 hx6) rfl ?_
 rintro s6 vr6 st6 rfl
 have szs6 := st6.size
 have hS := hS.trans0 st6
 replace h5_0 := h5_0.up2 st6
 replace h1_0 := h1_0.up2 st6
 replace tb0 := tb0.up2 st6
 refine k_move rfl rfl ?_
 refine k_extract rfl rfl rfl ?_
 refine k_extract rfl rfl rfl ?_
 refine k_assign rfl rfl ?_
 refine k_assign rfl rfl ?_
 refine k_nil ?_
 refine k_keep [(0, _), (1, _), (2, _), (3, _), (4, _), (5, _), (6, _), (7, _)] ⟨rfl, rfl, rfl, rfl, rfl, rfl, rfl, rfl, trivial⟩ ?_
 refine k_seq ?_
 refine k_region ?_
 refine k_move rfl rfl ?_
 obtain ⟨x7, hx7, h⟩ := ob h
 refine k_call cal27 rfl (keys_Index_int_First_w  h1_0 hx7) rfl ?_
 rintro s7 vr7 st7 rfl
 have szs7 := st7.size
 have hS := hS.trans0 st7
 replace h5_0 := h5_0.up2 st7
 replace h1_0 := h1_0.up2 st7
 replace tb0 := tb0.up2 st7
 refine k_move rfl rfl ?_
 refine k_extract rfl rfl rfl ?_
 refine k_extract rfl rfl rfl ?_
 refine k_assign rfl rfl ?_
 refine k_assign rfl rfl ?_
 refine k_nil ?_
 refine k_keep [(0, _), (1, _), (2, _), (3, _), (4, _), (5, _), (6, _), (7, _), (8, _), (9, _)] ⟨rfl, rfl, rfl, rfl, rfl, rfl, rfl, rfl, rfl, rfl, trivial⟩ ?_
 refine k_seq ?_
 refine k_region ?_
 refine k_move rfl rfl ?_
 obtain ⟨x8, hx8, h⟩ := ob h
 refine k_call cal21 rfl (keys_Index_int_Scan_w  h1_0 hx8) rfl ?_
 rintro s8 vr8 st8 ⟨ub8_0_0, ub8_0_1, ub8_0_2, rfl, hg8_0_0, h8_0_0, hg8_0_1, h8_0_1, hg8_0_2, h8_0_2⟩
 have szs8 := st8.size
 have hS := hS.trans0 st8
 replace h5_0 := h5_0.up2 st8
 replace h1_0 := h1_0.up2 st8
 replace tb0 := tb0.up2 st8
 obtain ⟨x9, hx9, h⟩ := ob h
 refine k_call cal15 rfl (law12_row_c39_w  h8_0_0 h1_0 h8_0_1 h8_0_2 hx9) rfl ?_
 rintro s9 v9_0 st9 ⟨_, rfl, h9_0⟩
 have szs9 := st9.size
 have hS := hS.trans0 st9
 replace h5_0 := h5_0.up2 st9
 replace tb0 := tb0.up2 st9
 refine k_assign rfl rfl ?_
 refine k_nil ?_
 refine k_keep [(0, _), (2, _), (3, _), (4, _), (5, _), (6, _), (7, _), (8, _), (9, _), (10, _)] ⟨rfl, rfl, rfl, rfl, rfl, rfl, rfl, rfl, rfl, rfl, trivial⟩ ?_
 refine k_seq ?_
 refine k_region ?_
 obtain ⟨x10, hx10, h⟩ := ob h
 refine k_call cal10 rfl (keys_New_int_w   hx10) rfl ?_
 rintro s10 v10_0 st10 ⟨ku10_0, _, rfl, hk10_0, h10_0⟩
 have szs10 := st10.size
 have hS := hS.trans0 st10
 replace h5_0 := h5_0.up2 st10
 replace h9_0 := h9_0.up2 st10
 replace tb0 := tb0.up2 st10
 have le10_0 := h10_0.le
 have ne10_0 := h10_0.ne
 obtain ⟨x11, hx11, h⟩ := ob h
 refine k_call cal10 rfl (keys_New_int_w   hx11) rfl ?_
 rintro s11 v11_0 st11 ⟨ku11_0, _, rfl, hk11_0, h11_0⟩
 have szs11 := st11.size
 have hS := hS.trans0 st11
 replace h5_0 := h5_0.up2 st11
 replace h9_0 := h9_0.up2 st11
 replace h10_0 := h10_0.up2 st11
 replace tb0 := tb0.up2 st11
 have le11_0 := h11_0.le
 have ne11_0 := h11_0.ne
 refine k_assign rfl rfl ?_
 refine k_assign rfl rfl ?_
 refine k_nil ?_
 refine k_keep [(0, _), (2, _), (3, _), (4, _), (5, _), (6, _), (7, _), (8, _), (9, _), (10, _), (11, _), (12, _)] ⟨rfl, rfl, rfl, rfl, rfl, rfl, rfl, rfl, rfl, rfl, rfl, rfl, trivial⟩ ?_
 refine k_seq ?_
 refine k_region ?_
 refine k_move rfl rfl ?_
 obtain ⟨x12, hx12, h⟩ := ob h
 refine k_call cal11 rfl (keys_Index_int_Set_w  h10_0 hx12) rfl ?_
 rintro s12 vr12 st12 ⟨rfl, h10_0⟩
 have szs12 := st12.size
 have hS := hS.c0 st12
 replace h5_0 := h5_0.up2 st12
 replace h9_0 := h9_0.up2 st12
 replace h11_0 := h11_0.up2 st12
 replace tb0 := tb0.up2 st12
 refine k_nil ?_
 refine k_keep [(0, _), (2, _), (3, _), (4, _), (5, _), (6, _), (7, _), (8, _), (9, _), (10, _), (11, _), (12, _)] ⟨rfl, rfl, rfl, rfl, rfl, rfl, rfl, rfl, rfl, rfl, rfl, rfl, trivial⟩ ?_
 refine k_seq ?_
 refine k_region ?_
 refine k_move rfl rfl ?_
 obtain ⟨x13, hx13, h⟩ := ob h
 refine k_call cal11 rfl (keys_Index_int_Set_w  h10_0 hx13) rfl ?_
 rintro s13 vr13 st13 ⟨rfl, h10_0⟩
 have szs13 := st13.size
 have hS := hS.c0 st13
 replace h5_0 := h5_0.up2 st13
 replace h9_0 := h9_0.up2 st13
 replace h11_0 := h11_0.up2 st13
 replace tb0 := tb0.up2 st13
 refine k_nil ?_
 refine k_keep [(0, _), (2, _), (3, _), (4, _), (5, _), (6, _), (7, _), (8, _), (9, _), (10, _), (11, _), (12, _)] ⟨rfl, rfl, rfl, rfl, rfl, rfl, rfl, rfl, rfl, rfl, rfl, rfl, trivial⟩ ?_
 refine k_seq ?_
 refine k_region ?_
 refine k_move rfl rfl ?_
 obtain ⟨x14, hx14, h⟩ := ob h
 refine k_call cal11 rfl (keys_Index_int_Set_w  h11_0 hx14) rfl ?_
 rintro s14 vr14 st14 ⟨rfl, h11_0⟩
 have szs14 := st14.size
 have hS := hS.c0 st14
 replace h5_0 := h5_0.up2 st14
 replace h9_0 := h9_0.up2 st14
 replace h10_0 := h10_0.up2 st14
 replace tb0 := tb0.up2 st14
 refine k_nil ?_
 refine k_keep [(0, _), (2, _), (3, _), (4, _), (5, _), (6, _), (7, _), (8, _), (9, _), (10, _), (11, _), (12, _)] ⟨rfl, rfl, rfl, rfl, rfl, rfl, rfl, rfl, rfl, rfl, rfl, rfl, trivial⟩ ?_
 refine k_seq ?_
 refine k_region ?_
 refine k_move rfl rfl ?_
 obtain ⟨x15, hx15, h⟩ := ob h
 refine k_call cal11 rfl (keys_Index_int_Set_w  h11_0 hx15) rfl ?_
 rintro s15 vr15 st15 ⟨rfl, h11_0⟩
 have szs15 := st15.size
 have hS := hS.c0 st15
 replace h5_0 := h5_0.up2 st15
 replace h9_0 := h9_0.up2 st15
 replace h10_0 := h10_0.up2 st15
 replace tb0 := tb0.up2 st15
 refine k_nil ?_
 refine k_keep [(0, _), (2, _), (3, _), (4, _), (5, _), (6, _), (7, _), (8, _), (9, _), (10, _), (11, _), (12, _)] ⟨rfl, rfl, rfl, rfl, rfl, rfl, rfl, rfl, rfl, rfl, rfl, rfl, trivial⟩ ?_
 refine k_seq ?_
 refine k_region ?_
 refine k_move rfl rfl ?_
 refine k_move rfl rfl ?_
 obtain ⟨pb16, rfl⟩ := h10_0.ptr
 obtain ⟨pb17, rfl⟩ := h11_0.ptr
 refine k_bslice_raw (vs := [(.pointer (some ⟨pb16, 0, none⟩)), (.pointer (some ⟨pb17, 0, none⟩))]) slc24 rfl rfl (List.forall_mem_cons.2 ⟨rfl, (List.forall_mem_cons.2 ⟨rfl, (fun _ h => nomatch h)⟩)⟩) rfl rfl ?_
 intro s18 b18 st18 ge18 bl18 h18
 have szs18 := st18.size
 have hS := hS.trans0 st18
 replace h5_0 := h5_0.up2 st18
 replace h9_0 := h9_0.up2 st18
 replace h10_0 := h10_0.up2 st18
 replace h11_0 := h11_0.up2 st18
 replace tb0 := tb0.up2 st18
 obtain ⟨x16, hx16, h⟩ := ob h
 refine k_call cal16 rfl (keys_Merge_int_qoo_w  h10_0 h11_0 h18 hx16) rfl ?_
 rintro s19 vr19 st19 ⟨ub19_0_0, rfl, hg19_0_0, h19_0_0⟩
 have szs19 := st19.size
 have hS := hS.trans0 st19
 replace h5_0 := h5_0.up2 st19
 replace h9_0 := h9_0.up2 st19
 replace h10_0 := h10_0.up2 st19
 replace h11_0 := h11_0.up2 st19
 replace h18 := h18.up2 st19
 replace tb0 := tb0.up2 st19
 obtain ⟨x17, hx17, h⟩ := ob h
 refine k_call cal15 rfl (law12_row_c31qoo_w  h10_0 h11_0 h18 h19_0_0 hx17) rfl ?_
 rintro s20 v20_0 st20 ⟨_, rfl, h20_0⟩
 have szs20 := st20.size
 have hS := hS.trans0 st20
 replace h5_0 := h5_0.up2 st20
 replace h9_0 := h9_0.up2 st20
 replace tb0 := tb0.up2 st20
 refine k_assign rfl rfl ?_
 refine k_nil ?_
 refine k_keep [(0, _), (2, _), (3, _), (4, _), (5, _), (6, _), (7, _), (8, _), (9, _), (10, _), (13, _)] ⟨rfl, rfl, rfl, rfl, rfl, rfl, rfl, rfl, rfl, rfl, rfl, trivial⟩ ?_
 refine k_seq ?_
 refine k_seq ?_
 refine k_region ?_
 refine k_move rfl rfl ?_
 refine k_len Tryd.underlying53 rfl (SL.of_R h5_0).hasLen rfl ?_
 refine k_as (v := .int .i64 (x5.length : Int)) (by simp only [List.length_map]) ?_
 refine k_neq rfl rfl rfl ?_
 refine k_move rfl rfl ?_
 have hE21 := Step.r0 K0 s20
 refine k_cutl (X := St) 4 [(0, .bool false), (2, .bool x2.1), (3, .bool x3.1), (4, .bool x4.1), (5, v5_0), (6, .int .i64 x6.1), (7, .bool x6.2), (8, S x7.1), (9, .bool x7.2), (10, v9_0), (13, v20_0), (51, v5_0), (52, .int .i64 (x5.length : Int)), (53, .bool (decide ((x5.length : Int) ≠ 2)))] (fun _ => [(58, .bool (decide (((x5.length : Int) ≠ 2) ∨ ((x9.length : Int) ≠ 1))))]) (fun sl wL => sl.w = wL ∧ Step K0 s20 sl) ?_ ?_
 ·
  refine k_again 54 rfl ?_
  refine k_split (fun c22 => ?_) (fun c22 => ?_)
  ·
   refine k_no rfl rfl rfl rfl ?_
   refine k_no rfl rfl rfl rfl ?_
   refine k_no rfl rfl rfl rfl ?_
   refine k_pickT rfl rfl rfl rfl ?_
   exact k_met ⟨s20, ⟨(congrArg (fun b => some (Value.bool b)) (by first | exact decide_eq_decide.2 ⟨Or.inr, fun h => h.resolve_left c22⟩ | exact (decide_eq_true (Or.inl c22)).symm | (simp [c22]; done) | (simp [c22, i64] <;> omega))), trivial⟩, ⟨rfl, rfl, rfl, rfl, rfl, rfl, rfl, rfl, rfl, rfl, rfl, rfl, rfl, rfl, trivial⟩, rfl, hE21⟩
  ·
   refine k_yes rfl rfl ?_
   refine k_move rfl rfl ?_
   refine k_yes rfl rfl ?_
   refine k_len Tryd.underlying28 rfl (SL.of_R h9_0).hasLen rfl ?_
   refine k_as (v := .int .i64 (x9.length : Int)) (by simp only [List.length_map]) ?_
   refine k_yes rfl rfl ?_
   refine k_neq rfl rfl rfl ?_
   refine k_pickF rfl rfl rfl rfl ?_
   exact k_met ⟨s20, ⟨(congrArg (fun b => some (Value.bool b)) (by first | exact decide_eq_decide.2 ⟨Or.inr, fun h => h.resolve_left c22⟩ | exact (decide_eq_true (Or.inl c22)).symm | (simp [c22]; done) | (simp [c22, i64] <;> omega))), trivial⟩, ⟨rfl, rfl, rfl, rfl, rfl, rfl, rfl, rfl, rfl, rfl, rfl, rfl, rfl, rfl, trivial⟩, rfl, hE21⟩
 ·
  rintro s23 wL ⟨rfl, hE21⟩
  have szs23 := hE21.size
  have hS := hS.trans0 hE21
  replace h5_0 := h5_0.up2 hE21
  replace h9_0 := h9_0.up2 hE21
  replace h20_0 := h20_0.up2 hE21
  replace tb0 := tb0.up2 hE21
  refine k_move rfl rfl ?_
  have hE24 := Step.r0 K0 s23
  refine k_cutl (X := St) 4 [(0, .bool false), (2, .bool x2.1), (3, .bool x3.1), (4, .bool x4.1), (5, v5_0), (6, .int .i64 x6.1), (7, .bool x6.2), (8, S x7.1), (9, .bool x7.2), (10, v9_0), (13, v20_0), (51, v5_0), (52, .int .i64 (x5.length : Int)), (53, .bool (decide ((x5.length : Int) ≠ 2))), (58, .bool (decide (((x5.length : Int) ≠ 2) ∨ ((x9.length : Int) ≠ 1))))] (fun _ => [(63, .bool (decide ((((x5.length : Int) ≠ 2) ∨ ((x9.length : Int) ≠ 1)) ∨ ((x17.length : Int) ≠ 3))))]) (fun sl wL => sl.w = wL ∧ Step K0 s23 sl) ?_ ?_
  ·
   refine k_again 59 rfl ?_
   refine k_split (fun c25 => ?_) (fun c25 => ?_)
   ·
    refine k_no rfl rfl rfl rfl ?_
    refine k_no rfl rfl rfl rfl ?_
    refine k_no rfl rfl rfl rfl ?_
    refine k_pickT rfl rfl rfl rfl ?_
    exact k_met ⟨s23, ⟨(congrArg (fun b => some (Value.bool b)) (by first | exact decide_eq_decide.2 ⟨Or.inr, fun h => h.resolve_left c25⟩ | exact (decide_eq_true (Or.inl c25)).symm | (simp [c25]; done) | (simp [c25, i64] <;> omega))), trivial⟩, ⟨rfl, rfl, rfl, rfl, rfl, rfl, rfl, rfl, rfl, rfl, rfl, rfl, rfl, rfl, rfl, trivial⟩, rfl, hE24⟩
   ·
    refine k_yes rfl rfl ?_
    refine k_move rfl rfl ?_
    refine k_yes rfl rfl ?_
    refine k_len Tryd.underlying28 rfl (SL.of_R h20_0).hasLen rfl ?_
    refine k_as (v := .int .i64 (x17.length : Int)) (by simp only [List.length_map]) ?_
    refine k_yes rfl rfl ?_
    refine k_neq rfl rfl rfl ?_
    refine k_pickF rfl rfl rfl rfl ?_
    exact k_met ⟨s23, ⟨(congrArg (fun b => some (Value.bool b)) (by first | exact decide_eq_decide.2 ⟨Or.inr, fun h => h.resolve_left c25⟩ | exact (decide_eq_true (Or.inl c25)).symm | (simp [c25]; done) | (simp [c25, i64] <;> omega))), trivial⟩, ⟨rfl, rfl, rfl, rfl, rfl, rfl, rfl, rfl, rfl, rfl, rfl, rfl, rfl, rfl, rfl, trivial⟩, rfl, hE24⟩
  ·
   rintro s26 wL ⟨rfl, hE24⟩
   have szs26 := hE24.size
   have hS := hS.trans0 hE24
   replace h5_0 := h5_0.up2 hE24
   replace h9_0 := h9_0.up2 hE24
   replace h20_0 := h20_0.up2 hE24
   replace tb0 := tb0.up2 hE24
   refine k_nil ?_
   refine k_keep [(0, _), (2, _), (3, _), (4, _), (5, _), (6, _), (7, _), (8, _), (9, _), (10, _), (13, _), (63, _)] ⟨rfl, rfl, rfl, rfl, rfl, rfl, rfl, rfl, rfl, rfl, rfl, rfl, trivial⟩ ?_
   refine k_cond_dec rfl (fun c27 => ?_) (fun c27 => ?_)
   ·
    have h := itT h c27
    refine k_seq ?_
    refine k_region ?_
    refine k_assign rfl rfl ?_
    refine k_nil ?_
    refine k_keep [(0, _), (2, _), (3, _), (4, _), (5, _), (6, _), (7, _), (8, _), (9, _), (10, _), (13, _)] ⟨rfl, rfl, rfl, rfl, rfl, rfl, rfl, rfl, rfl, rfl, rfl, trivial⟩ ?_
    refine k_ret ?_
    obtain rfl := Option.some.inj h
    refine ⟨_, rfl, Ret.mk hS ?_⟩
    exact rfl
   ·
    have h := itF h c27
    refine k_skip ?_
    refine k_seq ?_
    refine k_region ?_
    refine k_move rfl rfl ?_
    refine k_move rfl rfl ?_
    have hE28 := Step.r0 K0 s26
    refine k_cutl (X := St) 2 [(0, .bool false), (2, .bool x2.1), (3, .bool x3.1), (4, .bool x4.1), (5, v5_0), (6, .int .i64 x6.1), (7, .bool x6.2), (8, S x7.1), (9, .bool x7.2), (10, v9_0), (13, v20_0), (63, .bool (decide ((((x5.length : Int) ≠ 2) ∨ ((x9.length : Int) ≠ 1)) ∨ ((x17.length : Int) ≠ 3)))), (64, .bool x2.1)] (fun _ => [(67, .bool (decide ((x2.1 = true) ∧ (x3.1 = true))))]) (fun sl wL => sl.w = wL ∧ Step K0 s26 sl) ?_ ?_
    ·
     refine k_again 65 rfl ?_
     refine k_splitb (fun c29 => ?_) (fun c29 => ?_)
     ·
      refine k_yes rfl rfl ?_
      refine k_move rfl rfl ?_
      refine k_pickT rfl rfl rfl rfl ?_
      exact k_met ⟨s26, ⟨(congrArg (fun b => some (Value.bool b)) (by first | exact decide_eq_decide.2 ⟨fun h => ⟨c29, h⟩, fun h => h.2⟩ | exact (decide_eq_false (fun h => c29 h.1)).symm | (simp [c29]; done) | (simp [c29, i64] <;> omega))), trivial⟩, ⟨rfl, rfl, rfl, rfl, rfl, rfl, rfl, rfl, rfl, rfl, rfl, rfl, rfl, trivial⟩, rfl, hE28⟩
     ·
      refine k_no rfl rfl rfl rfl ?_
      refine k_pickF rfl rfl rfl rfl ?_
      exact k_met ⟨s26, ⟨(congrArg (fun b => some (Value.bool b)) (by first | exact decide_eq_decide.2 ⟨fun h => ⟨c29, h⟩, fun h => h.2⟩ | exact (decide_eq_false (fun h => c29 h.1)).symm | (simp [c29]; done) | (simp [c29, i64] <;> omega))), trivial⟩, ⟨rfl, rfl, rfl, rfl, rfl, rfl, rfl, rfl, rfl, rfl, rfl, rfl, rfl, trivial⟩, rfl, hE28⟩
    ·
     rintro s30 wL ⟨rfl, hE28⟩
     have szs30 := hE28.size
     have hS := hS.trans0 hE28
     replace h5_0 := h5_0.up2 hE28
     replace h9_0 := h9_0.up2 hE28
     replace h20_0 := h20_0.up2 hE28
     replace tb0 := tb0.up2 hE28
     refine k_move rfl rfl ?_
     have hE31 := Step.r0 K0 s30
     refine k_cutl (X := St) 3 [(0, .bool false), (2, .bool x2.1), (3, .bool x3.1), (4, .bool x4.1), (5, v5_0), (6, .int .i64 x6.1), (7, .bool x6.2), (8, S x7.1), (9, .bool x7.2), (10, v9_0), (13, v20_0), (63, .bool (decide ((((x5.length : Int) ≠ 2) ∨ ((x9.length : Int) ≠ 1)) ∨ ((x17.length : Int) ≠ 3)))), (64, .bool x2.1), (67, .bool (decide ((x2.1 = true) ∧ (x3.1 = true))))] (fun _ => [(71, .bool (decide (((x2.1 = true) ∧ (x3.1 = true)) ∧ ((!x4.1) = true))))]) (fun sl wL => sl.w = wL ∧ Step K0 s30 sl) ?_ ?_
     ·
      refine k_again 68 rfl ?_
      refine k_split (fun c32 => ?_) (fun c32 => ?_)
      ·
       refine k_yes rfl rfl ?_
       refine k_move rfl rfl ?_
       refine k_yes rfl rfl ?_
       refine k_not rfl rfl ?_
       refine k_pickT rfl rfl rfl rfl ?_
       exact k_met ⟨s30, ⟨(congrArg (fun b => some (Value.bool b)) (by first | exact decide_eq_decide.2 ⟨fun h => ⟨c32, h⟩, fun h => h.2⟩ | exact (decide_eq_false (fun h => c32 h.1)).symm | (simp [c32]; done) | (simp [c32, i64] <;> omega))), trivial⟩, ⟨rfl, rfl, rfl, rfl, rfl, rfl, rfl, rfl, rfl, rfl, rfl, rfl, rfl, rfl, trivial⟩, rfl, hE31⟩
      ·
       refine k_no rfl rfl rfl rfl ?_
       refine k_no rfl rfl rfl rfl ?_
       refine k_pickF rfl rfl rfl rfl ?_
       exact k_met ⟨s30, ⟨(congrArg (fun b => some (Value.bool b)) (by first | exact decide_eq_decide.2 ⟨fun h => ⟨c32, h⟩, fun h => h.2⟩ | exact (decide_eq_false (fun h => c32 h.1)).symm | (simp [c32]; done) | (simp [c32, i64] <;> omega))), trivial⟩, ⟨rfl, rfl, rfl, rfl, rfl, rfl, rfl, rfl, rfl, rfl, rfl, rfl, rfl, rfl, trivial⟩, rfl, hE31⟩
     ·
      rintro s33 wL ⟨rfl, hE31⟩
      have szs33 := hE31.size
      have hS := hS.trans0 hE31
      replace h5_0 := h5_0.up2 hE31
      replace h9_0 := h9_0.up2 hE31
      replace h20_0 := h20_0.up2 hE31
      replace tb0 := tb0.up2 hE31
      refine k_move rfl rfl ?_
      obtain ⟨x18, hx18, h⟩ := ob h
      have hE34 := Step.r0 K0 s33
      refine k_cutl (X := St) 5 [(0, .bool false), (2, .bool x2.1), (3, .bool x3.1), (4, .bool x4.1), (5, v5_0), (6, .int .i64 x6.1), (7, .bool x6.2), (8, S x7.1), (9, .bool x7.2), (10, v9_0), (13, v20_0), (63, .bool (decide ((((x5.length : Int) ≠ 2) ∨ ((x9.length : Int) ≠ 1)) ∨ ((x17.length : Int) ≠ 3)))), (64, .bool x2.1), (67, .bool (decide ((x2.1 = true) ∧ (x3.1 = true)))), (71, .bool (decide (((x2.1 = true) ∧ (x3.1 = true)) ∧ ((!x4.1) = true))))] (fun _ => [(77, .bool x18)]) (fun sl wL => sl.w = wL ∧ Step K0 s33 sl) ?_ ?_
      ·
       refine k_again 72 rfl ?_
       refine k_split (fun c35 => ?_) (fun c35 => ?_)
       ·
        have hx18 := itT hx18 c35
        refine k_yes rfl rfl ?_
        refine k_move rfl rfl ?_
        refine k_yes rfl rfl ?_
        obtain ⟨x19, hx19, hx18⟩ := ob hx18
        refine k_ixaddr Tryd.underlying53 size9 rfl rfl (SL.of_R h5_0) (geti_out hx19).1 (geti_map hx19) rfl ?_
        intro qx19 hqx19
        refine k_yes rfl rfl ?_
        refine k_load_val one9 rfl hqx19 rfl ?_
        refine k_yes rfl rfl ?_
        refine k_eql_str rfl rfl rfl ?_
        refine k_pickT rfl rfl rfl rfl ?_
        exact k_met ⟨s33, ⟨(congrArg (fun b => some (Value.bool b)) (Option.some.inj hx18)), trivial⟩, ⟨rfl, rfl, rfl, rfl, rfl, rfl, rfl, rfl, rfl, rfl, rfl, rfl, rfl, rfl, rfl, trivial⟩, rfl, hE34⟩
       ·
        have hx18 := itF hx18 c35
        refine k_no rfl rfl rfl rfl ?_
        refine k_no rfl rfl rfl rfl ?_
        refine k_no rfl rfl rfl rfl ?_
        refine k_no rfl rfl rfl rfl ?_
        refine k_pickF rfl rfl rfl rfl ?_
        exact k_met ⟨s33, ⟨(congrArg (fun b => some (Value.bool b)) (Option.some.inj hx18)), trivial⟩, ⟨rfl, rfl, rfl, rfl, rfl, rfl, rfl, rfl, rfl, rfl, rfl, rfl, rfl, rfl, rfl, trivial⟩, rfl, hE34⟩
      ·
       rintro s36 wL ⟨rfl, hE34⟩
       have szs36 := hE34.size
       have hS := hS.trans0 hE34
       replace h9_0 := h9_0.up2 hE34
       replace h20_0 := h20_0.up2 hE34
       replace tb0 := tb0.up2 hE34
       refine k_move rfl rfl ?_
       have hE37 := Step.r0 K0 s36
       refine k_cutl (X := St) 3 [(0, .bool false), (2, .bool x2.1), (3, .bool x3.1), (4, .bool x4.1), (5, v5_0), (6, .int .i64 x6.1), (7, .bool x6.2), (8, S x7.1), (9, .bool x7.2), (10, v9_0), (13, v20_0), (63, .bool (decide ((((x5.length : Int) ≠ 2) ∨ ((x9.length : Int) ≠ 1)) ∨ ((x17.length : Int) ≠ 3)))), (64, .bool x2.1), (67, .bool (decide ((x2.1 = true) ∧ (x3.1 = true)))), (71, .bool (decide (((x2.1 = true) ∧ (x3.1 = true)) ∧ ((!x4.1) = true)))), (77, .bool x18)] (fun _ => [(81, .bool (decide ((x18 = true) ∧ (x6.1 = 3))))]) (fun sl wL => sl.w = wL ∧ Step K0 s36 sl) ?_ ?_
       ·
        refine k_again 78 rfl ?_
        refine k_splitb (fun c38 => ?_) (fun c38 => ?_)
        ·
         refine k_yes rfl rfl ?_
         refine k_move rfl rfl ?_
         refine k_yes rfl rfl ?_
         refine k_eql rfl rfl rfl ?_
         refine k_pickT rfl rfl rfl rfl ?_
         exact k_met ⟨s36, ⟨(congrArg (fun b => some (Value.bool b)) (by first | exact decide_eq_decide.2 ⟨fun h => ⟨c38, h⟩, fun h => h.2⟩ | exact (decide_eq_false (fun h => c38 h.1)).symm | (simp [c38]; done) | (simp [c38, i64] <;> omega))), trivial⟩, ⟨rfl, rfl, rfl, rfl, rfl, rfl, rfl, rfl, rfl, rfl, rfl, rfl, rfl, rfl, rfl, rfl, trivial⟩, rfl, hE37⟩
        ·
         refine k_no rfl rfl rfl rfl ?_
         refine k_no rfl rfl rfl rfl ?_
         refine k_pickF rfl rfl rfl rfl ?_
         exact k_met ⟨s36, ⟨(congrArg (fun b => some (Value.bool b)) (by first | exact decide_eq_decide.2 ⟨fun h => ⟨c38, h⟩, fun h => h.2⟩ | exact (decide_eq_false (fun h => c38 h.1)).symm | (simp [c38]; done) | (simp [c38, i64] <;> omega))), trivial⟩, ⟨rfl, rfl, rfl, rfl, rfl, rfl, rfl, rfl, rfl, rfl, rfl, rfl, rfl, rfl, rfl, rfl, trivial⟩, rfl, hE37⟩
       ·
        rintro s39 wL ⟨rfl, hE37⟩
        have szs39 := hE37.size
        have hS := hS.trans0 hE37
        replace h9_0 := h9_0.up2 hE37
        replace h20_0 := h20_0.up2 hE37
        replace tb0 := tb0.up2 hE37
        refine k_move rfl rfl ?_
        have hE40 := Step.r0 K0 s39
        refine k_cutl (X := St) 2 [(0, .bool false), (2, .bool x2.1), (3, .bool x3.1), (4, .bool x4.1), (5, v5_0), (6, .int .i64 x6.1), (7, .bool x6.2), (8, S x7.1), (9, .bool x7.2), (10, v9_0), (13, v20_0), (63, .bool (decide ((((x5.length : Int) ≠ 2) ∨ ((x9.length : Int) ≠ 1)) ∨ ((x17.length : Int) ≠ 3)))), (64, .bool x2.1), (67, .bool (decide ((x2.1 = true) ∧ (x3.1 = true)))), (71, .bool (decide (((x2.1 = true) ∧ (x3.1 = true)) ∧ ((!x4.1) = true)))), (77, .bool x18), (81, .bool (decide ((x18 = true) ∧ (x6.1 = 3))))] (fun _ => [(84, .bool (decide (((x18 = true) ∧ (x6.1 = 3)) ∧ (x6.2 = true))))]) (fun sl wL => sl.w = wL ∧ Step K0 s39 sl) ?_ ?_
        ·
         refine k_again 82 rfl ?_
         refine k_split (fun c41 => ?_) (fun c41 => ?_)
         ·
          refine k_yes rfl rfl ?_
          refine k_move rfl rfl ?_
          refine k_pickT rfl rfl rfl rfl ?_
          exact k_met ⟨s39, ⟨(congrArg (fun b => some (Value.bool b)) (by first | exact decide_eq_decide.2 ⟨fun h => ⟨c41, h⟩, fun h => h.2⟩ | exact (decide_eq_false (fun h => c41 h.1)).symm | (simp [c41]; done) | (simp [c41, i64] <;> omega))), trivial⟩, ⟨rfl, rfl, rfl, rfl, rfl, rfl, rfl, rfl, rfl, rfl, rfl, rfl, rfl, rfl, rfl, rfl, rfl, trivial⟩, rfl, hE40⟩
         ·
          refine k_no rfl rfl rfl rfl ?_
          refine k_pickF rfl rfl rfl rfl ?_
          exact k_met ⟨s39, ⟨(congrArg (fun b => some (Value.bool b)) (by first | exact decide_eq_decide.2 ⟨fun h => ⟨c41, h⟩, fun h => h.2⟩ | exact (decide_eq_false (fun h => c41 h.1)).symm | (simp [c41]; done) | (simp [c41, i64] <;> omega))), trivial⟩, ⟨rfl, rfl, rfl, rfl, rfl, rfl, rfl, rfl, rfl, rfl, rfl, rfl, rfl, rfl, rfl, rfl, rfl, trivial⟩, rfl, hE40⟩
        ·
         rintro s42 wL ⟨rfl, hE40⟩
         have szs42 := hE40.size
         have hS := hS.trans0 hE40
         replace h9_0 := h9_0.up2 hE40
         replace h20_0 := h20_0.up2 hE40
         replace tb0 := tb0.up2 hE40
         refine k_move rfl rfl ?_
         have hE43 := Step.r0 K0 s42
         refine k_cutl (X := St) 3 [(0, .bool false), (2, .bool x2.1), (3, .bool x3.1), (4, .bool x4.1), (5, v5_0), (6, .int .i64 x6.1), (7, .bool x6.2), (8, S x7.1), (9, .bool x7.2), (10, v9_0), (13, v20_0), (63, .bool (decide ((((x5.length : Int) ≠ 2) ∨ ((x9.length : Int) ≠ 1)) ∨ ((x17.length : Int) ≠ 3)))), (64, .bool x2.1), (67, .bool (decide ((x2.1 = true) ∧ (x3.1 = true)))), (71, .bool (decide (((x2.1 = true) ∧ (x3.1 = true)) ∧ ((!x4.1) = true)))), (77, .bool x18), (81, .bool (decide ((x18 = true) ∧ (x6.1 = 3)))), (84, .bool (decide (((x18 = true) ∧ (x6.1 = 3)) ∧ (x6.2 = true))))] (fun _ => [(88, .bool (decide ((((x18 = true) ∧ (x6.1 = 3)) ∧ (x6.2 = true)) ∧ (x7.1 = ([98] : List UInt8)))))]) (fun sl wL => sl.w = wL ∧ Step K0 s42 sl) ?_ ?_
         ·
          refine k_again 85 rfl ?_
          refine k_split (fun c44 => ?_) (fun c44 => ?_)
          ·
           refine k_yes rfl rfl ?_
           refine k_move rfl rfl ?_
           refine k_yes rfl rfl ?_
           refine k_eql_str rfl rfl rfl ?_
           refine k_pickT rfl rfl rfl rfl ?_
           exact k_met ⟨s42, ⟨(congrArg (fun b => some (Value.bool b)) (by first | exact decide_eq_decide.2 ⟨fun h => ⟨c44, h⟩, fun h => h.2⟩ | exact (decide_eq_false (fun h => c44 h.1)).symm | (simp [c44]; done) | (simp [c44, i64] <;> omega))), trivial⟩, ⟨rfl, rfl, rfl, rfl, rfl, rfl, rfl, rfl, rfl, rfl, rfl, rfl, rfl, rfl, rfl, rfl, rfl, rfl, trivial⟩, rfl, hE43⟩
          ·
           refine k_no rfl rfl rfl rfl ?_
           refine k_no rfl rfl rfl rfl ?_
           refine k_pickF rfl rfl rfl rfl ?_
           exact k_met ⟨s42, ⟨(congrArg (fun b => some (Value.bool b)) (by first | exact decide_eq_decide.2 ⟨fun h => ⟨c44, h⟩, fun h => h.2⟩ | exact (decide_eq_false (fun h => c44 h.1)).symm | (simp [c44]; done) | (simp [c44, i64] <;> omega))), trivial⟩, ⟨rfl, rfl, rfl, rfl, rfl, rfl, rfl, rfl, rfl, rfl, rfl, rfl, rfl, rfl, rfl, rfl, rfl, rfl, trivial⟩, rfl, hE43⟩
         ·
          rintro s45 wL ⟨rfl, hE43⟩
          have szs45 := hE43.size
          have hS := hS.trans0 hE43
          replace h9_0 := h9_0.up2 hE43
          replace h20_0 := h20_0.up2 hE43
          replace tb0 := tb0.up2 hE43
          refine k_move rfl rfl ?_
          have hE46 := Step.r0 K0 s45
          refine k_cutl (X := St) 2 [(0, .bool false), (2, .bool x2.1), (3, .bool x3.1), (4, .bool x4.1), (5, v5_0), (6, .int .i64 x6.1), (7, .bool x6.2), (8, S x7.1), (9, .bool x7.2), (10, v9_0), (13, v20_0), (63, .bool (decide ((((x5.length : Int) ≠ 2) ∨ ((x9.length : Int) ≠ 1)) ∨ ((x17.length : Int) ≠ 3)))), (64, .bool x2.1), (67, .bool (decide ((x2.1 = true) ∧ (x3.1 = true)))), (71, .bool (decide (((x2.1 = true) ∧ (x3.1 = true)) ∧ ((!x4.1) = true)))), (77, .bool x18), (81, .bool (decide ((x18 = true) ∧ (x6.1 = 3)))), (84, .bool (decide (((x18 = true) ∧ (x6.1 = 3)) ∧ (x6.2 = true)))), (88, .bool (decide ((((x18 = true) ∧ (x6.1 = 3)) ∧ (x6.2 = true)) ∧ (x7.1 = ([98] : List UInt8)))))] (fun _ => [(91, .bool (decide (((((x18 = true) ∧ (x6.1 = 3)) ∧ (x6.2 = true)) ∧ (x7.1 = ([98] : List UInt8))) ∧ (x7.2 = true))))]) (fun sl wL => sl.w = wL ∧ Step K0 s45 sl) ?_ ?_
          ·
           refine k_again 89 rfl ?_
           refine k_split (fun c47 => ?_) (fun c47 => ?_)
           ·
            refine k_yes rfl rfl ?_
            refine k_move rfl rfl ?_
            refine k_pickT rfl rfl rfl rfl ?_
            exact k_met ⟨s45, ⟨(congrArg (fun b => some (Value.bool b)) (by first | exact decide_eq_decide.2 ⟨fun h => ⟨c47, h⟩, fun h => h.2⟩ | exact (decide_eq_false (fun h => c47 h.1)).symm | (simp [c47]; done) | (simp [c47, i64] <;> omega))), trivial⟩, ⟨rfl, rfl, rfl, rfl, rfl, rfl, rfl, rfl, rfl, rfl, rfl, rfl, rfl, rfl, rfl, rfl, rfl, rfl, rfl, trivial⟩, rfl, hE46⟩
           ·
            refine k_no rfl rfl rfl rfl ?_
            refine k_pickF rfl rfl rfl rfl ?_
            exact k_met ⟨s45, ⟨(congrArg (fun b => some (Value.bool b)) (by first | exact decide_eq_decide.2 ⟨fun h => ⟨c47, h⟩, fun h => h.2⟩ | exact (decide_eq_false (fun h => c47 h.1)).symm | (simp [c47]; done) | (simp [c47, i64] <;> omega))), trivial⟩, ⟨rfl, rfl, rfl, rfl, rfl, rfl, rfl, rfl, rfl, rfl, rfl, rfl, rfl, rfl, rfl, rfl, rfl, rfl, rfl, trivial⟩, rfl, hE46⟩
          ·
           rintro s48 wL ⟨rfl, hE46⟩
           have szs48 := hE46.size
           have hS := hS.trans0 hE46
           replace h9_0 := h9_0.up2 hE46
           replace h20_0 := h20_0.up2 hE46
           replace tb0 := tb0.up2 hE46
           refine k_move rfl rfl ?_
           obtain ⟨x20, hx20, h⟩ := ob h
           have hE49 := Step.r0 K0 s48
           refine k_cutl (X := St) 6 [(0, .bool false), (2, .bool x2.1), (3, .bool x3.1), (4, .bool x4.1), (5, v5_0), (6, .int .i64 x6.1), (7, .bool x6.2), (8, S x7.1), (9, .bool x7.2), (10, v9_0), (13, v20_0), (63, .bool (decide ((((x5.length : Int) ≠ 2) ∨ ((x9.length : Int) ≠ 1)) ∨ ((x17.length : Int) ≠ 3)))), (64, .bool x2.1), (67, .bool (decide ((x2.1 = true) ∧ (x3.1 = true)))), (71, .bool (decide (((x2.1 = true) ∧ (x3.1 = true)) ∧ ((!x4.1) = true)))), (77, .bool x18), (81, .bool (decide ((x18 = true) ∧ (x6.1 = 3)))), (84, .bool (decide (((x18 = true) ∧ (x6.1 = 3)) ∧ (x6.2 = true)))), (88, .bool (decide ((((x18 = true) ∧ (x6.1 = 3)) ∧ (x6.2 = true)) ∧ (x7.1 = ([98] : List UInt8))))), (91, .bool (decide (((((x18 = true) ∧ (x6.1 = 3)) ∧ (x6.2 = true)) ∧ (x7.1 = ([98] : List UInt8))) ∧ (x7.2 = true))))] (fun _ => [(98, .bool x20)]) (fun sl wL => sl.w = wL ∧ Step K0 s48 sl) ?_ ?_
           ·
            refine k_again 92 rfl ?_
            refine k_split (fun c50 => ?_) (fun c50 => ?_)
            ·
             have hx20 := itT hx20 c50
             refine k_yes rfl rfl ?_
             refine k_move rfl rfl ?_
             refine k_yes rfl rfl ?_
             obtain ⟨x21, hx21, hx20⟩ := ob hx20
             refine k_ixaddr Tryd.underlying28 size55 rfl rfl (SL.of_R h9_0) (geti_out hx21).1 (geti_map hx21) rfl ?_
             intro qx21 hqx21
             refine k_yes rfl rfl ?_
             refine k_field_at (o := 0) rfl hqx21 (by rfl) fld55_1 rfl ?_
             intro q51 h51
             refine k_yes rfl rfl ?_
             refine k_load_val one3 rfl h51 rfl ?_
             refine k_yes rfl rfl ?_
             refine k_eql rfl rfl rfl ?_
             refine k_pickT rfl rfl rfl rfl ?_
             exact k_met ⟨s48, ⟨(congrArg (fun b => some (Value.bool b)) (Option.some.inj hx20)), trivial⟩, ⟨rfl, rfl, rfl, rfl, rfl, rfl, rfl, rfl, rfl, rfl, rfl, rfl, rfl, rfl, rfl, rfl, rfl, rfl, rfl, rfl, trivial⟩, rfl, hE49⟩
            ·
             have hx20 := itF hx20 c50
             refine k_no rfl rfl rfl rfl ?_
             refine k_no rfl rfl rfl rfl ?_
             refine k_no rfl rfl rfl rfl ?_
             refine k_no rfl rfl rfl rfl ?_
             refine k_no rfl rfl rfl rfl ?_
             refine k_pickF rfl rfl rfl rfl ?_
             exact k_met ⟨s48, ⟨(congrArg (fun b => some (Value.bool b)) (Option.some.inj hx20)), trivial⟩, ⟨rfl, rfl, rfl, rfl, rfl, rfl, rfl, rfl, rfl, rfl, rfl, rfl, rfl, rfl, rfl, rfl, rfl, rfl, rfl, rfl, trivial⟩, rfl, hE49⟩
           ·
            rintro s52 wL ⟨rfl, hE49⟩
            have szs52 := hE49.size
            have hS := hS.trans0 hE49
            replace h20_0 := h20_0.up2 hE49
            replace tb0 := tb0.up2 hE49
            refine k_move rfl rfl ?_
            obtain ⟨x22, hx22, h⟩ := ob h
            have hE53 := Step.r0 K0 s52
            refine k_cutl (X := St) 6 [(0, .bool false), (2, .bool x2.1), (3, .bool x3.1), (4, .bool x4.1), (5, v5_0), (6, .int .i64 x6.1), (7, .bool x6.2), (8, S x7.1), (9, .bool x7.2), (10, v9_0), (13, v20_0), (63, .bool (decide ((((x5.length : Int) ≠ 2) ∨ ((x9.length : Int) ≠ 1)) ∨ ((x17.length : Int) ≠ 3)))), (64, .bool x2.1), (67, .bool (decide ((x2.1 = true) ∧ (x3.1 = true)))), (71, .bool (decide (((x2.1 = true) ∧ (x3.1 = true)) ∧ ((!x4.1) = true)))), (77, .bool x18), (81, .bool (decide ((x18 = true) ∧ (x6.1 = 3)))), (84, .bool (decide (((x18 = true) ∧ (x6.1 = 3)) ∧ (x6.2 = true)))), (88, .bool (decide ((((x18 = true) ∧ (x6.1 = 3)) ∧ (x6.2 = true)) ∧ (x7.1 = ([98] : List UInt8))))), (91, .bool (decide (((((x18 = true) ∧ (x6.1 = 3)) ∧ (x6.2 = true)) ∧ (x7.1 = ([98] : List UInt8))) ∧ (x7.2 = true)))), (98, .bool x20)] (fun _ => [(105, .bool x22)]) (fun sl wL => sl.w = wL ∧ Step K0 s52 sl) ?_ ?_
            ·
             refine k_again 99 rfl ?_
             refine k_splitb (fun c54 => ?_) (fun c54 => ?_)
             ·
              have hx22 := ibT hx22 c54
              refine k_yes rfl rfl ?_
              refine k_move rfl rfl ?_
              refine k_yes rfl rfl ?_
              obtain ⟨x23, hx23, hx22⟩ := ob hx22
              refine k_ixaddr Tryd.underlying28 size55 rfl rfl (SL.of_R h20_0) (geti_out hx23).1 (geti_map hx23) rfl ?_
              intro qx23 hqx23
              refine k_yes rfl rfl ?_
              refine k_field_at (o := 0) rfl hqx23 (by rfl) fld55_1 rfl ?_
              intro q55 h55
              refine k_yes rfl rfl ?_
              refine k_load_val one3 rfl h55 rfl ?_
              refine k_yes rfl rfl ?_
              refine k_eql rfl rfl rfl ?_
              refine k_pickT rfl rfl rfl rfl ?_
              exact k_met ⟨s52, ⟨(congrArg (fun b => some (Value.bool b)) (Option.some.inj hx22)), trivial⟩, ⟨rfl, rfl, rfl, rfl, rfl, rfl, rfl, rfl, rfl, rfl, rfl, rfl, rfl, rfl, rfl, rfl, rfl, rfl, rfl, rfl, rfl, trivial⟩, rfl, hE53⟩
             ·
              have hx22 := ibF hx22 c54
              refine k_no rfl rfl rfl rfl ?_
              refine k_no rfl rfl rfl rfl ?_
              refine k_no rfl rfl rfl rfl ?_
              refine k_no rfl rfl rfl rfl ?_
              refine k_no rfl rfl rfl rfl ?_
              refine k_pickF rfl rfl rfl rfl ?_
              exact k_met ⟨s52, ⟨(congrArg (fun b => some (Value.bool b)) (Option.some.inj hx22)), trivial⟩, ⟨rfl, rfl, rfl, rfl, rfl, rfl, rfl, rfl, rfl, rfl, rfl, rfl, rfl, rfl, rfl, rfl, rfl, rfl, rfl, rfl, rfl, trivial⟩, rfl, hE53⟩
            ·
             rintro s56 wL ⟨rfl, hE53⟩
             have szs56 := hE53.size
             have hS := hS.trans0 hE53
             replace h20_0 := h20_0.up2 hE53
             replace tb0 := tb0.up2 hE53
             refine k_move rfl rfl ?_
             obtain ⟨x24, hx24, h⟩ := ob h
             have hE57 := Step.r0 K0 s56
             refine k_cutl (X := St) 6 [(0, .bool false), (2, .bool x2.1), (3, .bool x3.1), (4, .bool x4.1), (5, v5_0), (6, .int .i64 x6.1), (7, .bool x6.2), (8, S x7.1), (9, .bool x7.2), (10, v9_0), (13, v20_0), (63, .bool (decide ((((x5.length : Int) ≠ 2) ∨ ((x9.length : Int) ≠ 1)) ∨ ((x17.length : Int) ≠ 3)))), (64, .bool x2.1), (67, .bool (decide ((x2.1 = true) ∧ (x3.1 = true)))), (71, .bool (decide (((x2.1 = true) ∧ (x3.1 = true)) ∧ ((!x4.1) = true)))), (77, .bool x18), (81, .bool (decide ((x18 = true) ∧ (x6.1 = 3)))), (84, .bool (decide (((x18 = true) ∧ (x6.1 = 3)) ∧ (x6.2 = true)))), (88, .bool (decide ((((x18 = true) ∧ (x6.1 = 3)) ∧ (x6.2 = true)) ∧ (x7.1 = ([98] : List UInt8))))), (91, .bool (decide (((((x18 = true) ∧ (x6.1 = 3)) ∧ (x6.2 = true)) ∧ (x7.1 = ([98] : List UInt8))) ∧ (x7.2 = true)))), (98, .bool x20), (105, .bool x22)] (fun _ => [(112, .bool x24)]) (fun sl wL => sl.w = wL ∧ Step K0 s56 sl) ?_ ?_
             ·
              refine k_again 106 rfl ?_
              refine k_splitb (fun c58 => ?_) (fun c58 => ?_)
              ·
               have hx24 := ibT hx24 c58
               refine k_yes rfl rfl ?_
               refine k_move rfl rfl ?_
               refine k_yes rfl rfl ?_
               obtain ⟨x25, hx25, hx24⟩ := ob hx24
               refine k_ixaddr Tryd.underlying28 size55 rfl rfl (SL.of_R h20_0) (geti_out hx25).1 (geti_map hx25) rfl ?_
               intro qx25 hqx25
               refine k_yes rfl rfl ?_
               refine k_field_at (o := 0) rfl hqx25 (by rfl) fld55_0 rfl ?_
               intro q59 h59
               refine k_yes rfl rfl ?_
               refine k_load_val one9 rfl h59 rfl ?_
               refine k_yes rfl rfl ?_
               refine k_eql_str rfl rfl rfl ?_
               refine k_pickT rfl rfl rfl rfl ?_
               exact k_met ⟨s56, ⟨(congrArg (fun b => some (Value.bool b)) (Option.some.inj hx24)), trivial⟩, ⟨rfl, rfl, rfl, rfl, rfl, rfl, rfl, rfl, rfl, rfl, rfl, rfl, rfl, rfl, rfl, rfl, rfl, rfl, rfl, rfl, rfl, rfl, trivial⟩, rfl, hE57⟩
              ·
               have hx24 := ibF hx24 c58
               refine k_no rfl rfl rfl rfl ?_
               refine k_no rfl rfl rfl rfl ?_
               refine k_no rfl rfl rfl rfl ?_
               refine k_no rfl rfl rfl rfl ?_
               refine k_no rfl rfl rfl rfl ?_
               refine k_pickF rfl rfl rfl rfl ?_
               exact k_met ⟨s56, ⟨(congrArg (fun b => some (Value.bool b)) (Option.some.inj hx24)), trivial⟩, ⟨rfl, rfl, rfl, rfl, rfl, rfl, rfl, rfl, rfl, rfl, rfl, rfl, rfl, rfl, rfl, rfl, rfl, rfl, rfl, rfl, rfl, rfl, trivial⟩, rfl, hE57⟩
             ·
              rintro s60 wL ⟨rfl, hE57⟩
              have szs60 := hE57.size
              have hS := hS.trans0 hE57
              replace h20_0 := h20_0.up2 hE57
              replace tb0 := tb0.up2 hE57
              refine k_move rfl rfl ?_
              obtain ⟨x26, hx26, h⟩ := ob h
              have hE61 := Step.r0 K0 s60
              refine k_cutl (X := St) 6 [(0, .bool false), (2, .bool x2.1), (3, .bool x3.1), (4, .bool x4.1), (5, v5_0), (6, .int .i64 x6.1), (7, .bool x6.2), (8, S x7.1), (9, .bool x7.2), (10, v9_0), (13, v20_0), (63, .bool (decide ((((x5.length : Int) ≠ 2) ∨ ((x9.length : Int) ≠ 1)) ∨ ((x17.length : Int) ≠ 3)))), (64, .bool x2.1), (67, .bool (decide ((x2.1 = true) ∧ (x3.1 = true)))), (71, .bool (decide (((x2.1 = true) ∧ (x3.1 = true)) ∧ ((!x4.1) = true)))), (77, .bool x18), (81, .bool (decide ((x18 = true) ∧ (x6.1 = 3)))), (84, .bool (decide (((x18 = true) ∧ (x6.1 = 3)) ∧ (x6.2 = true)))), (88, .bool (decide ((((x18 = true) ∧ (x6.1 = 3)) ∧ (x6.2 = true)) ∧ (x7.1 = ([98] : List UInt8))))), (91, .bool (decide (((((x18 = true) ∧ (x6.1 = 3)) ∧ (x6.2 = true)) ∧ (x7.1 = ([98] : List UInt8))) ∧ (x7.2 = true)))), (98, .bool x20), (105, .bool x22), (112, .bool x24)] (fun _ => [(119, .bool x26)]) (fun sl wL => sl.w = wL ∧ Step K0 s60 sl) ?_ ?_
              ·
               refine k_again 113 rfl ?_
               refine k_splitb (fun c62 => ?_) (fun c62 => ?_)
               ·
                have hx26 := ibT hx26 c62
                refine k_yes rfl rfl ?_
                refine k_move rfl rfl ?_
                refine k_yes rfl rfl ?_
                obtain ⟨x27, hx27, hx26⟩ := ob hx26
                refine k_ixaddr Tryd.underlying28 size55 rfl rfl (SL.of_R h20_0) (geti_out hx27).1 (geti_map hx27) rfl ?_
                intro qx27 hqx27
                refine k_yes rfl rfl ?_
                refine k_field_at (o := 0) rfl hqx27 (by rfl) fld55_1 rfl ?_
                intro q63 h63
                refine k_yes rfl rfl ?_
                refine k_load_val one3 rfl h63 rfl ?_
                refine k_yes rfl rfl ?_
                refine k_eql rfl rfl rfl ?_
                refine k_pickT rfl rfl rfl rfl ?_
                exact k_met ⟨s60, ⟨(congrArg (fun b => some (Value.bool b)) (Option.some.inj hx26)), trivial⟩, ⟨rfl, rfl, rfl, rfl, rfl, rfl, rfl, rfl, rfl, rfl, rfl, rfl, rfl, rfl, rfl, rfl, rfl, rfl, rfl, rfl, rfl, rfl, rfl, trivial⟩, rfl, hE61⟩
               ·
                have hx26 := ibF hx26 c62
                refine k_no rfl rfl rfl rfl ?_
                refine k_no rfl rfl rfl rfl ?_
                refine k_no rfl rfl rfl rfl ?_
                refine k_no rfl rfl rfl rfl ?_
                refine k_no rfl rfl rfl rfl ?_
                refine k_pickF rfl rfl rfl rfl ?_
                exact k_met ⟨s60, ⟨(congrArg (fun b => some (Value.bool b)) (Option.some.inj hx26)), trivial⟩, ⟨rfl, rfl, rfl, rfl, rfl, rfl, rfl, rfl, rfl, rfl, rfl, rfl, rfl, rfl, rfl, rfl, rfl, rfl, rfl, rfl, rfl, rfl, rfl, trivial⟩, rfl, hE61⟩
              ·
               rintro s64 wL ⟨rfl, hE61⟩
               have szs64 := hE61.size
               have hS := hS.trans0 hE61
               replace tb0 := tb0.up2 hE61
               refine k_move rfl rfl ?_
               obtain ⟨x28, hx28, h⟩ := ob h
               have hE65 := Step.r0 K0 s64
               refine k_cutl (X := St) 3 [(0, .bool false), (2, .bool x2.1), (3, .bool x3.1), (4, .bool x4.1), (5, v5_0), (6, .int .i64 x6.1), (7, .bool x6.2), (8, S x7.1), (9, .bool x7.2), (10, v9_0), (13, v20_0), (63, .bool (decide ((((x5.length : Int) ≠ 2) ∨ ((x9.length : Int) ≠ 1)) ∨ ((x17.length : Int) ≠ 3)))), (64, .bool x2.1), (67, .bool (decide ((x2.1 = true) ∧ (x3.1 = true)))), (71, .bool (decide (((x2.1 = true) ∧ (x3.1 = true)) ∧ ((!x4.1) = true)))), (77, .bool x18), (81, .bool (decide ((x18 = true) ∧ (x6.1 = 3)))), (84, .bool (decide (((x18 = true) ∧ (x6.1 = 3)) ∧ (x6.2 = true)))), (88, .bool (decide ((((x18 = true) ∧ (x6.1 = 3)) ∧ (x6.2 = true)) ∧ (x7.1 = ([98] : List UInt8))))), (91, .bool (decide (((((x18 = true) ∧ (x6.1 = 3)) ∧ (x6.2 = true)) ∧ (x7.1 = ([98] : List UInt8))) ∧ (x7.2 = true)))), (98, .bool x20), (105, .bool x22), (112, .bool x24), (119, .bool x26)] (fun _ => [(123, .bool x28)]) (fun sl wL => sl.w = wL ∧ Step K0 s64 sl) ?_ ?_
               ·
                refine k_again 120 rfl ?_
                refine k_splitb (fun c66 => ?_) (fun c66 => ?_)
                ·
                 have hx28 := ibT hx28 c66
                 refine k_yes rfl rfl ?_
                 obtain ⟨x29, hx29, hx28⟩ := ob hx28
                 refine k_call cal18 rfl (keys_Number_w  tb0 hx29) rfl ?_
                 rintro s67 vr67 st67 rfl
                 have szs67 := st67.size
                 have hS := hS.trans0 st67
                 have hE65 := hE65.trans0 st67
                 refine k_yes rfl rfl ?_
                 refine k_eql_str rfl rfl rfl ?_
                 refine k_pickT rfl rfl rfl rfl ?_
                 exact k_met ⟨s67, ⟨(congrArg (fun b => some (Value.bool b)) (Option.some.inj hx28)), trivial⟩, ⟨rfl, rfl, rfl, rfl, rfl, rfl, rfl, rfl, rfl, rfl, rfl, rfl, rfl, rfl, rfl, rfl, rfl, rfl, rfl, rfl, rfl, rfl, rfl, rfl, trivial⟩, rfl, hE65⟩
                ·
                 have hx28 := ibF hx28 c66
                 refine k_no rfl rfl rfl rfl ?_
                 refine k_no rfl rfl rfl rfl ?_
                 refine k_pickF rfl rfl rfl rfl ?_
                 exact k_met ⟨s64, ⟨(congrArg (fun b => some (Value.bool b)) (Option.some.inj hx28)), trivial⟩, ⟨rfl, rfl, rfl, rfl, rfl, rfl, rfl, rfl, rfl, rfl, rfl, rfl, rfl, rfl, rfl, rfl, rfl, rfl, rfl, rfl, rfl, rfl, rfl, rfl, trivial⟩, rfl, hE65⟩
               ·
                rintro s68 wL ⟨rfl, hE65⟩
                have szs68 := hE65.size
                have hS := hS.trans0 hE65
                refine k_assign rfl rfl ?_
                refine k_nil ?_
                refine k_keep [(0, _)] ⟨rfl, trivial⟩ ?_
                refine k_ret ?_
                obtain rfl := Option.some.inj h
                refine ⟨_, rfl, Ret.mk hS ?_⟩
                exact rfl

set_option maxHeartbeats 1000000 in
set_option maxRecDepth 100000 in
theorem ref12_Number_w {s : St} {a0 : Int} {r : (List UInt8)}  (h : ref12_Number a0 = some r) : Calls Tryd.prog 19 #[.int .i64 a0] s.w (Ret s K0 (fun s1 v => v = S r)) := by
 unfold ref12_Number at h
 have hS := Step.r0 K0 s
 refine k_fn (rs := [2]) (args := [.int .i64 a0]) Tryd.func19 rfl rfl rfl rfl ?_
 refine k_seq ?_
 refine k_region ?_
 refine k_assign rfl rfl ?_
 refine k_nil ?_
 refine k_seq ?_
 obtain ⟨kj1, hK1, h⟩ := jn_out h
 have hE1 := Step.r0 K0 s
 refine k_cutc (X := St × Int) [(2, S ([] : List UInt8))] (fun (xL : St × Int) => match xL with | (sl, x2) => [(0, .int .i64 x2)]) (fun (xL : St × Int) (wL : World) => match xL with | (sl, x2) => sl.w = wL ∧ Step K0 s sl ∧ kj1 x2 = some r) ?_ ?_
 ·
  refine k_seq ?_
  refine k_region ?_
  refine k_move rfl rfl ?_
  refine k_lss rfl rfl rfl ?_
  refine k_nil ?_
  refine k_keep [(0, _), (2, _), (6, _)] ⟨rfl, rfl, rfl, trivial⟩ ?_
  refine k_cond_dec rfl (fun c2 => ?_) (fun c2 => ?_)
  ·
   have h := itT h c2
   refine k_region ?_
   refine k_assign rfl rfl ?_
   refine k_nil ?_
   exact k_stop ⟨(s, 0), ⟨(by first | rfl | (simp <;> rfl)), trivial⟩, ⟨rfl, trivial⟩, ⟨rfl, hE1, h⟩⟩
  ·
   have h := itF h c2
   refine k_skip ?_
   exact k_stop ⟨(s, a0), ⟨(by first | rfl | (simp <;> rfl)), trivial⟩, ⟨rfl, trivial⟩, ⟨rfl, hE1, h⟩⟩
 ·
  rintro ⟨s3, x2⟩ wL ⟨rfl, hE1, h⟩
  rw [hK1] at h
  have szs3 := hE1.size
  have hS := hS.trans0 hE1
  refine k_seq ?_
  obtain ⟨kj3, hK4, h⟩ := jn_out h
  have hE4 := Step.r0 K0 s3
  refine k_cutc (X := St × Int) [(2, S ([] : List UInt8))] (fun (xL : St × Int) => match xL with | (sl, x4) => [(0, .int .i64 x4)]) (fun (xL : St × Int) (wL : World) => match xL with | (sl, x4) => sl.w = wL ∧ Step K0 s3 sl ∧ kj3 x4 = some r) ?_ ?_
  ·
   refine k_seq ?_
   refine k_region ?_
   refine k_move rfl rfl ?_
   refine k_gtr rfl rfl rfl ?_
   refine k_nil ?_
   refine k_keep [(0, _), (2, _), (8, _)] ⟨rfl, rfl, rfl, trivial⟩ ?_
   refine k_cond_dec rfl (fun c5 => ?_) (fun c5 => ?_)
   ·
    have h := itT h c5
    refine k_region ?_
    refine k_assign rfl rfl ?_
    refine k_nil ?_
    exact k_stop ⟨(s3, 9999999999), ⟨(by first | rfl | (simp <;> rfl)), trivial⟩, ⟨rfl, trivial⟩, ⟨rfl, hE4, h⟩⟩
   ·
    have h := itF h c5
    refine k_skip ?_
    exact k_stop ⟨(s3, x2), ⟨(by first | rfl | (simp <;> rfl)), trivial⟩, ⟨rfl, trivial⟩, ⟨rfl, hE4, h⟩⟩
  ·
   rintro ⟨s6, x4⟩ wL ⟨rfl, hE4, h⟩
   rw [hK4] at h
   have szs6 := hE4.size
   have hS := hS.trans0 hE4
   refine k_seq ?_
   refine k_region ?_
   refine k_alloc zero80 rfl ?_
   intro s7 b7 st7 h7 ge7
   have szs7 := st7.size
   have hS := hS.trans0 st7
   have lt7 := h7.lt
   refine k_nil ?_
   refine k_seq ?_
   obtain ⟨kj5, hK8, h⟩ := jn_out h
   have hE8 := Step.r0 (KC (b7 + 1) 0) s7
   refine k_cutc (X := St × (List UInt8)) [(2, S ([] : List UInt8)), (3, .pointer (some ⟨b7, 0, none⟩))] (fun (xL : St × (List UInt8)) => match xL with | (sl, x6) => []) (fun (xL : St × (List UInt8)) (wL : World) => match xL with | (sl, x6) => sl.w = wL ∧ Step (KC (b7 + 1) 0) s7 sl ∧ (x6.length = 10) ∧ (Blk sl b7 ⟨b7 + 1, 0⟩ (([] : List Value) ++ x6.map cB) 80) ∧ kj5 x6 = some r) ?_ ?_
   ·
    refine k_seq ?_
    refine k_region ?_
    refine k_assign rfl rfl ?_
    refine k_nil ?_
    refine k_block ?_
    refine k_loopc (X := St × Int × Int × (List UInt8) × Nat) [(2, _), (3, _)] (fun (xL : St × Int × Int × (List UInt8) × Nat) => match xL with | (sl, x7, x8, x9, j) => [(0, .int .i64 x7), (4, .int .i64 x8)]) (fun (xL : St × Int × Int × (List UInt8) × Nat) (wL : World) => match xL with | (sl, x7, x8, x9, j) => sl.w = wL ∧ Step (KC (b7 + 1) 0) s7 sl ∧ (x9.length = 10) ∧ (Blk sl b7 ⟨b7 + 1, 0⟩ (([] : List Value) ++ x9.map cB) 80) ∧ ref12_Number_l1 kj5 j x7 x8 x9 = some r) (fun (xL : St × Int × Int × (List UInt8) × Nat) => match xL with | (sl, x7, x8, x9, j) => j) (s7, x4, 9, (List.replicate 10 (0 : UInt8)), FU) ⟨rfl, rfl, trivial⟩ ⟨(by first | rfl | (simp <;> rfl)), (by first | rfl | (simp <;> rfl)), trivial⟩ ⟨rfl, (Step.refl _).of0 (by first | exact fun _ h => h | (intro c h; simp [KC, KO, KU, KN, KB] at h <;> omega)), (List.length_replicate), h7, h⟩ ?_
    rintro ⟨s12, x7, x8, x9, j⟩ wL ⟨rfl, hE10, h11, h7, h⟩
    cases j with
    | zero => rw [ref12_Number_l1] at h; exact (noneNe h).elim
    | succ j =>
    rw [ref12_Number_l1] at h
    have szs12 := hE10.size
    have hS := hS.c0 hE10
    have hE8 := hE8.c0 hE10
    refine k_seq ?_
    refine k_seq ?_
    refine k_region ?_
    refine k_move rfl rfl ?_
    refine k_geq rfl rfl rfl ?_
    refine k_nil ?_
    refine k_keep [(0, _), (2, _), (3, _), (4, _), (10, _)] ⟨rfl, rfl, rfl, rfl, rfl, trivial⟩ ?_
    refine k_cond_dec rfl (fun c13 => ?_) (fun c13 => ?_)
    ·
     have h := itT h c13
     refine k_skip ?_
     refine k_seq ?_
     refine k_block ?_
     refine k_seq ?_
     refine k_region ?_
     refine k_move rfl rfl ?_
     refine k_move rfl rfl ?_
     refine k_rem rfl rfl (by decide) rfl ?_
     refine k_add rfl rfl rfl ?_
     refine k_conv (p := i64 (48 + (x7.tmod 10))) Tryd.underlying3 Tryd.underlying5 rfl rfl ?_
     refine k_as (congrArg (Value.int .u8) (w8 _)) ?_
     obtain ⟨x10, hx10, h⟩ := ob h
     refine k_ixarr (m := 0) arr80 rfl rfl h11 hx10 rfl ?_
     refine k_store_el cB (fun _ => rfl) (v := ofI8 (i64 (48 + (x7.tmod 10)))) (pre := []) (xs := x9) size5 rfl rfl h7 (by first | (simp; done) | omega | (dsimp only; omega)) rfl hx10 ?_
     intro s14 st14 h7
     have hl14 : (x9.set (x8 : Int).toNat (ofI8 (i64 (48 + (x7.tmod 10))))).length = 10 := by rw [List.length_set]; exact h11
     have szs14 := st14.size
     have hS := hS.c0 st14
     have hE8 := hE8.c0 st14
     have hE10 := hE10.c0 st14
     refine k_nil ?_
     refine k_keep [(0, _), (2, _), (3, _), (4, _)] ⟨rfl, rfl, rfl, rfl, trivial⟩ ?_
     refine k_region ?_
     refine k_move rfl rfl ?_
     refine k_quo rfl rfl (by decide) rfl ?_
     refine k_assign rfl rfl ?_
     refine k_nil ?_
     refine k_blk ?_
     refine k_region ?_
     refine k_move rfl rfl ?_
     refine k_sub_ rfl rfl rfl ?_
     refine k_assign rfl rfl ?_
     refine k_nil ?_
     exact k_stop ⟨(s14, i64 (x7.tdiv 10), i64 (x8 - 1), (x9.set (x8 : Int).toNat (ofI8 (i64 (48 + (x7.tmod 10))))), j), ⟨(by first | rfl | (simp <;> rfl)), (by first | rfl | (simp <;> rfl)), trivial⟩, ⟨rfl, rfl, trivial⟩, ⟨rfl, hE10, hl14, h7, h⟩, (by simp)⟩
    ·
     have h := itF h c13
     refine k_exit rfl ?_
     exact k_stop ⟨(s12, x9), trivial, ⟨rfl, rfl, trivial⟩, ⟨rfl, hE8, h11, h7, h⟩⟩
   ·
    rintro ⟨s15, x6⟩ wL ⟨rfl, hE8, h9, h7, h⟩
    rw [hK8] at h
    have szs15 := hE8.size
    have hS := hS.c0 hE8
    refine k_seq ?_
    refine k_region ?_
    refine k_cut_row (g := bD) (xs := x6) (i := 0) (j := 10) cB (fun _ => rfl) (fun _ => rfl) arr80 rfl h7 h9 CutAt.none CutAt.none (by omega) (Nat.le_refl _) rfl ?_
    intro v16 h16
    replace h16 : SL s15 ⟨b7 + 1, 0⟩ v16 1 (x6.map bD) := by have hq := h9; simpa [hq, List.take_of_length_le] using h16
    refine k_bts (m := x6) Tryd.underlying81 Tryd.underlying5 Tryd.underlying9 rfl h16 rfl ?_
    refine k_assign rfl rfl ?_
    refine k_nil ?_
    refine k_keep [(2, _)] ⟨rfl, trivial⟩ ?_
    refine k_ret ?_
    obtain rfl := Option.some.inj h
    refine ⟨_, rfl, Ret.mk hS ?_⟩
    exact rfl

set_option maxHeartbeats 1000000 in
set_option maxRecDepth 100000 in
theorem law12_KeysNumbers_w {s : St} {a0 : Int} {a1 : Int} {r : Bool} (tb0 : Tab0 s) (h : law12_KeysNumbers a0 a1 = some r) : Calls Tryd.prog 4 #[.int .i64 a0, .int .i64 a1] s.w (Ret s K0 (fun s1 v => v = .bool r)) := by
 unfold law12_KeysNumbers at h
 have hS := Step.r0 K0 s
 refine k_fn (rs := [4]) (args := [.int .i64 a0, .int .i64 a1]) Tryd.func4 rfl rfl rfl rfl ?_
 refine k_seq ?_
 refine k_region ?_
 refine k_assign rfl rfl ?_
 refine k_nil ?_
 refine k_seq ?_
 refine k_seq ?_
 refine k_region ?_
 refine k_move rfl rfl ?_
 obtain ⟨x1, hx1, h⟩ := ob h
 refine k_call cal18 rfl (keys_Number_w  tb0 hx1) rfl ?_
 rintro s1 vr1 st1 rfl
 have szs1 := st1.size
 have hS := hS.trans0 st1
 replace tb0 := tb0.up2 st1
 refine k_move rfl rfl ?_
 obtain ⟨x2, hx2, h⟩ := ob h
 refine k_call cal19 rfl (ref12_Number_w   hx2) rfl ?_
 rintro s2 vr2 st2 rfl
 have szs2 := st2.size
 have hS := hS.trans0 st2
 replace tb0 := tb0.up2 st2
 refine k_neq_str rfl rfl rfl ?_
 refine k_move rfl rfl ?_
 obtain ⟨x3, hx3, h⟩ := ob h
 have hE3 := Step.r0 K0 s2
 refine k_cutl (X := St) 6 [(0, .int .i64 a0), (1, .int .i64 a1), (4, .bool false), (7, .int .i64 a0), (8, S x1), (9, .int .i64 a0), (10, S x2), (11, .bool (decide (x1 ≠ x2)))] (fun _ => [(18, .bool x3)]) (fun sl wL => sl.w = wL ∧ Step K0 s2 sl) ?_ ?_
 ·
  refine k_again 12 rfl ?_
  refine k_split (fun c4 => ?_) (fun c4 => ?_)
  ·
   have hx3 := itT hx3 c4
   refine k_no rfl rfl rfl rfl ?_
   refine k_no rfl rfl rfl rfl ?_
   refine k_no rfl rfl rfl rfl ?_
   refine k_no rfl rfl rfl rfl ?_
   refine k_no rfl rfl rfl rfl ?_
   refine k_pickT rfl rfl rfl rfl ?_
   exact k_met ⟨s2, ⟨(congrArg (fun b => some (Value.bool b)) (Option.some.inj hx3)), trivial⟩, ⟨rfl, rfl, rfl, rfl, rfl, rfl, rfl, rfl, trivial⟩, rfl, hE3⟩
  ·
   have hx3 := itF hx3 c4
   refine k_yes rfl rfl ?_
   refine k_move rfl rfl ?_
   refine k_yes rfl rfl ?_
   obtain ⟨x4, hx4, hx3⟩ := ob hx3
   refine k_call cal18 rfl (keys_Number_w  tb0 hx4) rfl ?_
   rintro s5 vr5 st5 rfl
   have szs5 := st5.size
   have hS := hS.trans0 st5
   have hE3 := hE3.trans0 st5
   refine k_yes rfl rfl ?_
   refine k_move rfl rfl ?_
   refine k_yes rfl rfl ?_
   obtain ⟨x5, hx5, hx3⟩ := ob hx3
   refine k_call cal19 rfl (ref12_Number_w   hx5) rfl ?_
   rintro s6 vr6 st6 rfl
   have szs6 := st6.size
   have hS := hS.trans0 st6
   have hE3 := hE3.trans0 st6
   refine k_yes rfl rfl ?_
   refine k_neq_str rfl rfl rfl ?_
   refine k_pickF rfl rfl rfl rfl ?_
   exact k_met ⟨s6, ⟨(congrArg (fun b => some (Value.bool b)) (Option.some.inj hx3)), trivial⟩, ⟨rfl, rfl, rfl, rfl, rfl, rfl, rfl, rfl, trivial⟩, rfl, hE3⟩
 ·
  rintro s7 wL ⟨rfl, hE3⟩
  have szs7 := hE3.size
  have hS := hS.trans0 hE3
  replace tb0 := tb0.up2 hE3
  refine k_nil ?_
  refine k_keep [(0, _), (1, _), (4, _), (18, _)] ⟨rfl, rfl, rfl, rfl, trivial⟩ ?_
  refine k_cond rfl (fun c8 => ?_) (fun c8 => ?_)
  ·
   have h := ibT h c8
   refine k_seq ?_
   refine k_region ?_
   refine k_assign rfl rfl ?_
   refine k_nil ?_
   refine k_keep [(0, _), (1, _), (4, _)] ⟨rfl, rfl, rfl, trivial⟩ ?_
   refine k_ret ?_
   obtain rfl := Option.some.inj h
   refine ⟨_, rfl, Ret.mk hS ?_⟩
   exact rfl
  ·
   have h := ibF h c8
   refine k_skip ?_
   refine k_seq ?_
   refine k_region ?_
   refine k_move rfl rfl ?_
   refine k_max2 rfl rfl rfl ?_
   refine k_min2 rfl rfl rfl ?_
   refine k_move rfl rfl ?_
   refine k_max2 rfl rfl rfl ?_
   refine k_min2 rfl rfl rfl ?_
   refine k_assign rfl rfl ?_
   refine k_assign rfl rfl ?_
   refine k_nil ?_
   refine k_keep [(0, _), (1, _), (4, _), (5, _), (6, _)] ⟨rfl, rfl, rfl, rfl, rfl, trivial⟩ ?_
   refine k_seq ?_
   refine k_region ?_
   refine k_move rfl rfl ?_
   obtain ⟨x6, hx6, h⟩ := ob h
   refine k_call cal18 rfl (keys_Number_w  tb0 hx6) rfl ?_
   rintro s9 vr9 st9 rfl
   have szs9 := st9.size
   have hS := hS.trans0 st9
   replace tb0 := tb0.up2 st9
   refine k_move rfl rfl ?_
   obtain ⟨x7, hx7, h⟩ := ob h
   refine k_call cal18 rfl (keys_Number_w  tb0 hx7) rfl ?_
   rintro s10 vr10 st10 rfl
   have szs10 := st10.size
   have hS := hS.trans0 st10
   replace tb0 := tb0.up2 st10
   refine k_lss_str rfl rfl rfl ?_
   refine k_move rfl rfl ?_
   refine k_move rfl rfl ?_
   refine k_lss rfl rfl rfl ?_
   refine k_eqlb Tryd.underlying4 rfl rfl rfl ?_
   refine k_move rfl rfl ?_
   obtain ⟨x8, hx8, h⟩ := ob h
   have hE11 := Step.r0 K0 s10
   refine k_cutl (X := St) 2 [(0, .int .i64 a0), (1, .int .i64 a1), (4, .bool false), (5, .int .i64 (min (max a0 0) 9999999999)), (6, .int .i64 (min (max a1 0) 9999999999)), (25, .int .i64 a0), (26, S x6), (27, .int .i64 a1), (28, S x7), (29, .bool (Op.bytesLess x6 x7)), (30, .int .i64 (min (max a0 0) 9999999999)), (31, .int .i64 (min (max a1 0) 9999999999)), (32, .bool (decide (min (max a0 0) 9999999999 < min (max a1 0) 9999999999))), (33, .bool (Op.bytesLess x6 x7 == decide (min (max a0 0) 9999999999 < min (max a1 0) 9999999999)))] (fun _ => [(36, .bool x8)]) (fun sl wL => sl.w = wL ∧ Step K0 s10 sl) ?_ ?_
   ·
    refine k_again 34 rfl ?_
    refine k_splitb (fun c12 => ?_) (fun c12 => ?_)
    ·
     have hx8 := ibT hx8 c12
     refine k_yes rfl rfl ?_
     obtain ⟨x9, hx9, hx8⟩ := ob hx8
     refine k_call cal9 rfl (law12_awake_w  tb0 hx9) rfl ?_
     rintro s13 vr13 st13 rfl
     have szs13 := st13.size
     have hS := hS.trans0 st13
     have hE11 := hE11.trans0 st13
     refine k_pickT rfl rfl rfl rfl ?_
     exact k_met ⟨s13, ⟨(congrArg (fun b => some (Value.bool b)) (Option.some.inj hx8)), trivial⟩, ⟨rfl, rfl, rfl, rfl, rfl, rfl, rfl, rfl, rfl, rfl, rfl, rfl, rfl, rfl, trivial⟩, rfl, hE11⟩
    ·
     have hx8 := ibF hx8 c12
     refine k_no rfl rfl rfl rfl ?_
     refine k_pickF rfl rfl rfl rfl ?_
     exact k_met ⟨s10, ⟨(congrArg (fun b => some (Value.bool b)) (Option.some.inj hx8)), trivial⟩, ⟨rfl, rfl, rfl, rfl, rfl, rfl, rfl, rfl, rfl, rfl, rfl, rfl, rfl, rfl, trivial⟩, rfl, hE11⟩
   ·
    rintro s14 wL ⟨rfl, hE11⟩
    have szs14 := hE11.size
    have hS := hS.trans0 hE11
    refine k_assign rfl rfl ?_
    refine k_nil ?_
    refine k_keep [(4, _)] ⟨rfl, trivial⟩ ?_
    refine k_ret ?_
    obtain rfl := Option.some.inj h
    refine ⟨_, rfl, Ret.mk hS ?_⟩
    exact rfl
end Go.Proofs
