import Derived.Test.YtcjcpmfnolhclaaDoorF11D
set_option linter.unusedSimpArgs false
set_option linter.unusedVariables false
namespace Go.Proofs
open Go.Fw
set_option maxHeartbeats 1000000 in
set_option maxRecDepth 100000 in
theorem disk_name_w {s : St} {a0 : (List UInt8)} {r : Bool}  (h : disk_name a0 = some r) : Calls Tryd.prog 55 #[S a0] s.w (Ret s K0 (fun s1 v => v = .bool r)) := by
 unfold disk_name at h
 have hS := Step.r0 K0 s
 refine k_fn (rs := [2]) (args := [S a0]) Tryd.func55 rfl rfl rfl rfl ?_
 refine k_seq ?_
 refine k_region ?_
 refine k_assign rfl rfl ?_
 refine k_nil ?_
 refine k_seq ?_
 refine k_region ?_
 refine k_move rfl rfl ?_
 refine k_neq_str rfl rfl rfl ?_
 refine k_move rfl rfl ?_
 have hE1 := Step.r0 K0 s
 refine k_cutl (X := St) 4 [(0, S a0), (2, .bool false), (3, S a0), (4, .bool (decide (a0 ≠ ([] : List UInt8))))] (fun _ => [(9, .bool (decide ((a0 ≠ ([] : List UInt8)) ∧ ((a0.length : Int) ≤ 16))))]) (fun sl wL => sl.w = wL ∧ Step K0 s sl) ?_ ?_
 ·
  refine k_again 5 rfl ?_
  refine k_split (fun c2 => ?_) (fun c2 => ?_)
  ·
   refine k_yes rfl rfl ?_
   refine k_move rfl rfl ?_
   refine k_yes rfl rfl ?_
   refine k_len_str Tryd.underlying9 rfl rfl ?_
   refine k_yes rfl rfl ?_
   refine k_leq rfl rfl rfl ?_
   refine k_pickT rfl rfl rfl rfl ?_
   exact k_met ⟨s, ⟨(congrArg (fun b => some (Value.bool b)) (by first | exact decide_eq_decide.2 ⟨fun h => ⟨c2, h⟩, fun h => h.2⟩ | exact (decide_eq_false (fun h => c2 h.1)).symm | (simp [c2]; done) | exact dec_andT c2 | exact dec_andF c2 | exact dec_orF c2 | exact dec_orT c2 | (simp [c2, i64] <;> omega))), trivial⟩, ⟨rfl, rfl, rfl, rfl, trivial⟩, rfl, hE1⟩
  ·
   refine k_no rfl rfl rfl rfl ?_
   refine k_no rfl rfl rfl rfl ?_
   refine k_no rfl rfl rfl rfl ?_
   refine k_pickF rfl rfl rfl rfl ?_
   exact k_met ⟨s, ⟨(congrArg (fun b => some (Value.bool b)) (by first | exact decide_eq_decide.2 ⟨fun h => ⟨c2, h⟩, fun h => h.2⟩ | exact (decide_eq_false (fun h => c2 h.1)).symm | (simp [c2]; done) | exact dec_andT c2 | exact dec_andF c2 | exact dec_orF c2 | exact dec_orT c2 | (simp [c2, i64] <;> omega))), trivial⟩, ⟨rfl, rfl, rfl, rfl, trivial⟩, rfl, hE1⟩
 ·
  rintro s3 wL ⟨rfl, hE1⟩
  have szs3 := hE1.size
  have hS := hS.trans0 hE1
  refine k_move rfl rfl ?_
  obtain ⟨x1, hx1, h⟩ := ob h
  have hE4 := Step.r0 K0 s3
  refine k_cutl (X := St) 4 [(0, S a0), (2, .bool false), (3, S a0), (4, .bool (decide (a0 ≠ ([] : List UInt8)))), (9, .bool (decide ((a0 ≠ ([] : List UInt8)) ∧ ((a0.length : Int) ≤ 16))))] (fun _ => [(14, .bool x1)]) (fun sl wL => sl.w = wL ∧ Step K0 s3 sl) ?_ ?_
  ·
   refine k_again 10 rfl ?_
   refine k_split (fun c5 => ?_) (fun c5 => ?_)
   ·
    have hx1 := itT hx1 c5
    refine k_yes rfl rfl ?_
    refine k_move rfl rfl ?_
    refine k_yes rfl rfl ?_
    by_cases c6 : a0.length ≤ 9223372036854775807
    case neg => exact (noneNe (itF hx1 c6)).elim
    replace hx1 := itT hx1 c6
    refine k_call cal64 rfl (trim_w (a := a0) c6) rfl ?_
    rintro s7 _ st7 rfl
    have szs7 := st7.size
    have hS := hS.trans0 st7
    have hE4 := hE4.trans0 st7
    refine k_yes rfl rfl ?_
    refine k_eql_str rfl rfl rfl ?_
    refine k_pickT rfl rfl rfl rfl ?_
    exact k_met ⟨s7, ⟨(congrArg (fun b => some (Value.bool b)) (Option.some.inj hx1)), trivial⟩, ⟨rfl, rfl, rfl, rfl, rfl, trivial⟩, rfl, hE4⟩
   ·
    have hx1 := itF hx1 c5
    refine k_no rfl rfl rfl rfl ?_
    refine k_no rfl rfl rfl rfl ?_
    refine k_no rfl rfl rfl rfl ?_
    refine k_pickF rfl rfl rfl rfl ?_
    exact k_met ⟨s3, ⟨(congrArg (fun b => some (Value.bool b)) (Option.some.inj hx1)), trivial⟩, ⟨rfl, rfl, rfl, rfl, rfl, trivial⟩, rfl, hE4⟩
  ·
   rintro s8 wL ⟨rfl, hE4⟩
   have szs8 := hE4.size
   have hS := hS.trans0 hE4
   refine k_assign rfl rfl ?_
   refine k_nil ?_
   refine k_keep [(2, _)] ⟨rfl, trivial⟩ ?_
   refine k_ret ?_
   obtain rfl := Option.some.inj h
   refine ⟨_, rfl, Ret.mk hS ?_⟩
   exact rfl

set_option maxHeartbeats 1000000 in
set_option maxRecDepth 100000 in
theorem disk_picture_find_1_w {s : St} {l0 : Lab} {v0 : Value} {a0 : DiskFile} {a1 : (List UInt8)} {r : Int} (hp0 : SL s l0 v0 1 (a0.b.map bD)) (h : disk_picture_find_1 a0 a1 = some r) : Calls Tryd.prog 61 #[.agg #[S a0.name, v0], S a1] s.w (Ret s K0 (fun s1 v => v = .int .i64 r)) := by
 unfold disk_picture_find_1 at h
 obtain ⟨lf0, lf0le, lf0ne, hp0⟩ := hp0.fix
 have hS := Step.r0 K0 s
 refine k_fn (rs := [4]) (args := [.agg #[S a0.name, v0], S a1]) Tryd.func61 rfl rfl rfl rfl ?_
 refine k_seq ?_
 refine k_region ?_
 refine k_box rfl rfl ?_
 intro s1 b1 st1 h1 ge1
 have szs1 := st1.size
 have hS := hS.trans0 st1
 have lt1 := h1.lt
 refine k_assign rfl rfl ?_
 refine k_nil ?_
 refine k_keep [(1, _), (2, _), (4, _)] ⟨rfl, rfl, rfl, trivial⟩ ?_
 refine k_seq ?_
 refine k_region ?_
 refine k_field_addr fld80_0 rfl rfl ?_
 refine k_load_blk one9 rfl h1 rfl rfl ?_
 refine k_move rfl rfl ?_
 refine k_call cal62 rfl (compare_w (a0 := a0.name) (a1 := a1)) rfl ?_
 rintro s2 _ st2 rfl
 have szs2 := st2.size
 have hS := hS.trans0 st2
 refine k_assign rfl rfl ?_
 refine k_nil ?_
 refine k_keep [(4, _)] ⟨rfl, trivial⟩ ?_
 refine k_ret ?_
 obtain rfl := Option.some.inj h
 refine ⟨_, rfl, Ret.mk hS ?_⟩
 exact rfl

set_option maxHeartbeats 1000000 in
set_option maxRecDepth 100000 in
theorem slices_BinarySearchFunc_disk_picture_disk_file_string_f61_w {s : St} {l0 : Lab} {v0 : Value} {a0 : (List DiskFile)} {a1 : (List UInt8)} {r : (Int × Bool)} (hp0 : SL s l0 v0 2 (a0.map dDiskFile)) (h : slices_BinarySearchFunc_disk_picture_disk_file_string_f61 a0 a1 = some r) : Calls Tryd.prog 60 #[v0, S a1, .func (.func 61) #[] #[]] s.w (Ret s K0 (fun s1 v => v = .tuple #[.int .i64 r.1, .bool r.2])) := by
 unfold slices_BinarySearchFunc_disk_picture_disk_file_string_f61 at h
 obtain ⟨lf0, lf0le, lf0ne, hp0⟩ := hp0.fix
 have hS := Step.r0 K0 s
 refine k_fn (rs := [6, 7]) (args := [v0, S a1, .func (.func 61) #[] #[]]) Tryd.func60 rfl rfl rfl rfl ?_
 refine k_seq ?_
 refine k_region ?_
 refine k_assign rfl rfl ?_
 refine k_assign rfl rfl ?_
 refine k_nil ?_
 refine k_seq ?_
 refine k_region ?_
 refine k_move rfl rfl ?_
 refine k_len Tryd.underlying76 rfl hp0.hasLen rfl ?_
 refine k_as (v := .int .i64 (a0.length : Int)) (by simp only [List.length_map]) ?_
 refine k_assign rfl rfl ?_
 refine k_nil ?_
 refine k_keep [(0, _), (1, _), (2, _), (6, _), (7, _), (8, _)] ⟨rfl, rfl, rfl, rfl, rfl, rfl, trivial⟩ ?_
 refine k_seq ?_
 refine k_region ?_
 refine k_move rfl rfl ?_
 refine k_assign rfl rfl ?_
 refine k_assign rfl rfl ?_
 refine k_nil ?_
 refine k_keep [(0, _), (1, _), (2, _), (6, _), (7, _), (8, _), (9, _), (10, _)] ⟨rfl, rfl, rfl, rfl, rfl, rfl, rfl, rfl, trivial⟩ ?_
 refine k_seq ?_
 obtain ⟨kj1, hK1, h⟩ := jn_out h
 have hE1 := Step.r0 K0 s
 refine k_cutc (X := St × Int) [(0, v0), (1, S a1), (2, .func (.func 61) #[] #[]), (6, .int .i64 0), (7, .bool false), (8, .int .i64 (a0.length : Int))] (fun (xL : St × Int) => match xL with | (sl, x2) => [(9, .int .i64 x2)]) (fun (xL : St × Int) (wL : World) => match xL with | (sl, x2) => sl.w = wL ∧ Step K0 s sl ∧ kj1 x2 = some r) ?_ ?_
 ·
  refine k_block ?_
  refine k_loopc (X := St × Int × Int × Nat) [(0, _), (1, _), (2, _), (6, _), (7, _), (8, _)] (fun (xL : St × Int × Int × Nat) => match xL with | (sl, x3, x4, j) => [(9, .int .i64 x3), (10, .int .i64 x4)]) (fun (xL : St × Int × Int × Nat) (wL : World) => match xL with | (sl, x3, x4, j) => sl.w = wL ∧ Step K0 s sl ∧ slices_BinarySearchFunc_disk_picture_disk_file_string_f61_l1 a0 a1 kj1 j x3 x4 = some r) (fun (xL : St × Int × Int × Nat) => match xL with | (sl, x3, x4, j) => j) (s, 0, (a0.length : Int), FU) ⟨rfl, rfl, rfl, rfl, rfl, rfl, trivial⟩ ⟨(by first | rfl | (simp <;> rfl)), (by first | rfl | (simp <;> rfl)), trivial⟩ ⟨rfl, (Step.refl _).of0 (by first | exact fun _ h => h | (intro c h; simp [KC, KO, KU, KN, KB] at h <;> omega)), h⟩ ?_
  rintro ⟨s3, x3, x4, j⟩ wL ⟨rfl, hE2, h⟩
  cases j with
  | zero => rw [slices_BinarySearchFunc_disk_picture_disk_file_string_f61_l1] at h; exact (noneNe h).elim
  | succ j =>
  rw [slices_BinarySearchFunc_disk_picture_disk_file_string_f61_l1] at h
  have szs3 := hE2.size
  have hS := hS.trans0 hE2
  have hE1 := hE1.trans0 hE2
  replace hp0 := hp0.up2 hE2
  refine k_seq ?_
  refine k_seq ?_
  refine k_region ?_
  refine k_move rfl rfl ?_
  refine k_move rfl rfl ?_
  refine k_lss rfl rfl rfl ?_
  refine k_nil ?_
  refine k_keep [(0, _), (1, _), (2, _), (6, _), (7, _), (8, _), (9, _), (10, _), (17, _)] ⟨rfl, rfl, rfl, rfl, rfl, rfl, rfl, rfl, rfl, trivial⟩ ?_
  refine k_cond_dec rfl (fun c4 => ?_) (fun c4 => ?_)
  ·
   have h := itT h c4
   refine k_skip ?_
   refine k_block ?_
   refine k_seq ?_
   refine k_region ?_
   refine k_move rfl rfl ?_
   refine k_move rfl rfl ?_
   refine k_add rfl rfl rfl ?_
   refine k_conv (p := i64 (x3 + x4)) Tryd.underlying3 Tryd.underlying108 rfl rfl ?_
   refine k_as (congrArg (Value.int .u64) (w64 _)) ?_
   refine k_shr (p := ((ofI64 (i64 (x3 + x4))).toNat : Int)) rfl rfl (by decide) rfl ?_
   refine k_as (congrArg (Value.int .u64) (shr64_eq _ _)) ?_
   refine k_conv (p := ((shr64 (ofI64 (i64 (x3 + x4))) 1).toNat : Int)) Tryd.underlying108 Tryd.underlying3 rfl rfl ?_
   refine k_assign rfl rfl ?_
   refine k_nil ?_
   refine k_keep [(0, _), (1, _), (2, _), (6, _), (7, _), (8, _), (9, _), (10, _), (11, _)] ⟨rfl, rfl, rfl, rfl, rfl, rfl, rfl, rfl, rfl, trivial⟩ ?_
   refine k_seq ?_
   refine k_region ?_
   refine k_move rfl rfl ?_
   refine k_move rfl rfl ?_
   refine k_move rfl rfl ?_
   obtain ⟨x5, hx5, h⟩ := ob h
   refine k_ixaddr Tryd.underlying76 size80 rfl rfl hp0 (geti_out hx5).1 (geti_map hx5) rfl ?_
   intro qx5 hqx5
   refine k_load_agg (by exact agg80) rfl hqx5 rfl ?_
   intro cs5 h5
   obtain ⟨q5_0, rfl, hq5_0⟩ := opnDiskFile h5
   refine k_move rfl rfl ?_
   obtain ⟨x6, hx6, h⟩ := ob h
   refine k_callv cal61 rfl rfl (disk_picture_find_1_w (a0 := x5) (SL.of_R hq5_0) hx6) rfl ?_
   rintro s6 vr6 st6 rfl
   have szs6 := st6.size
   have hS := hS.trans0 st6
   have hE1 := hE1.trans0 st6
   have hE2 := hE2.trans0 st6
   refine k_lss rfl rfl rfl ?_
   refine k_nil ?_
   refine k_keep [(0, _), (1, _), (2, _), (6, _), (7, _), (8, _), (9, _), (10, _), (11, _), (31, _)] ⟨rfl, rfl, rfl, rfl, rfl, rfl, rfl, rfl, rfl, rfl, trivial⟩ ?_
   refine k_cond_dec rfl (fun c7 => ?_) (fun c7 => ?_)
   ·
    have h := itT h c7
    refine k_region ?_
    refine k_move rfl rfl ?_
    refine k_add rfl rfl rfl ?_
    refine k_assign rfl rfl ?_
    refine k_nil ?_
    refine k_blk ?_
    exact k_stop ⟨(s6, i64 ((i64 ((shr64 (ofI64 (i64 (x3 + x4))) 1).toNat : Int)) + 1), x4, j), ⟨(by first | rfl | (simp <;> rfl)), (by first | rfl | (simp <;> rfl)), trivial⟩, ⟨rfl, rfl, rfl, rfl, rfl, rfl, trivial⟩, ⟨rfl, hE2, h⟩, (by simp)⟩
   ·
    have h := itF h c7
    refine k_region ?_
    refine k_move rfl rfl ?_
    refine k_assign rfl rfl ?_
    refine k_nil ?_
    refine k_blk ?_
    exact k_stop ⟨(s6, x3, i64 ((shr64 (ofI64 (i64 (x3 + x4))) 1).toNat : Int), j), ⟨(by first | rfl | (simp <;> rfl)), (by first | rfl | (simp <;> rfl)), trivial⟩, ⟨rfl, rfl, rfl, rfl, rfl, rfl, trivial⟩, ⟨rfl, hE2, h⟩, (by simp)⟩
  ·
   have h := itF h c4
   refine k_exit rfl ?_
   exact k_stop ⟨(s3, x3), ⟨(by first | rfl | (simp <;> rfl)), trivial⟩, ⟨rfl, rfl, rfl, rfl, rfl, rfl, trivial⟩, ⟨rfl, hE1, h⟩⟩
 ·
  rintro ⟨s8, x2⟩ wL ⟨rfl, hE1, h⟩
  rw [hK1] at h
  have szs8 := hE1.size
  have hS := hS.trans0 hE1
  replace hp0 := hp0.up2 hE1
  refine k_seq ?_
  refine k_region ?_
  refine k_move rfl rfl ?_
  refine k_move rfl rfl ?_
  refine k_move rfl rfl ?_
  refine k_lss rfl rfl rfl ?_
  refine k_move rfl rfl ?_
  obtain ⟨x7, hx7, h⟩ := ob h
  have hE9 := Step.r0 K0 s8
  refine k_cutl (X := St) 9 [(0, v0), (1, S a1), (2, .func (.func 61) #[] #[]), (6, .int .i64 0), (7, .bool false), (8, .int .i64 (a0.length : Int)), (9, .int .i64 x2), (35, .int .i64 x2), (36, .int .i64 x2), (37, .int .i64 (a0.length : Int)), (38, .bool (decide (x2 < (a0.length : Int))))] (fun _ => [(48, .bool x7)]) (fun sl wL => sl.w = wL ∧ Step K0 s8 sl) ?_ ?_
  ·
   refine k_again 39 rfl ?_
   refine k_split (fun c10 => ?_) (fun c10 => ?_)
   ·
    have hx7 := itT hx7 c10
    refine k_yes rfl rfl ?_
    refine k_move rfl rfl ?_
    refine k_yes rfl rfl ?_
    refine k_move rfl rfl ?_
    refine k_yes rfl rfl ?_
    refine k_move rfl rfl ?_
    refine k_yes rfl rfl ?_
    obtain ⟨x8, hx8, hx7⟩ := ob hx7
    refine k_ixaddr Tryd.underlying76 size80 rfl rfl hp0 (geti_out hx8).1 (geti_map hx8) rfl ?_
    intro qx8 hqx8
    refine k_yes rfl rfl ?_
    refine k_load_agg (by exact agg80) rfl hqx8 rfl ?_
    intro cs11 h11
    obtain ⟨q11_0, rfl, hq11_0⟩ := opnDiskFile h11
    refine k_yes rfl rfl ?_
    refine k_move rfl rfl ?_
    refine k_yes rfl rfl ?_
    obtain ⟨x9, hx9, hx7⟩ := ob hx7
    refine k_callv cal61 rfl rfl (disk_picture_find_1_w (a0 := x8) (SL.of_R hq11_0) hx9) rfl ?_
    rintro s12 vr12 st12 rfl
    have szs12 := st12.size
    have hS := hS.trans0 st12
    have hE9 := hE9.trans0 st12
    refine k_yes rfl rfl ?_
    refine k_eql rfl rfl rfl ?_
    refine k_pickT rfl rfl rfl rfl ?_
    exact k_met ⟨s12, ⟨(congrArg (fun b => some (Value.bool b)) (Option.some.inj hx7)), trivial⟩, ⟨rfl, rfl, rfl, rfl, rfl, rfl, rfl, rfl, rfl, rfl, rfl, trivial⟩, rfl, hE9⟩
   ·
    have hx7 := itF hx7 c10
    refine k_no rfl rfl rfl rfl ?_
    refine k_no rfl rfl rfl rfl ?_
    refine k_no rfl rfl rfl rfl ?_
    refine k_no rfl rfl rfl rfl ?_
    refine k_no rfl rfl rfl rfl ?_
    refine k_no rfl rfl rfl rfl ?_
    refine k_no rfl rfl rfl rfl ?_
    refine k_no rfl rfl rfl rfl ?_
    refine k_pickF rfl rfl rfl rfl ?_
    exact k_met ⟨s8, ⟨(congrArg (fun b => some (Value.bool b)) (Option.some.inj hx7)), trivial⟩, ⟨rfl, rfl, rfl, rfl, rfl, rfl, rfl, rfl, rfl, rfl, rfl, trivial⟩, rfl, hE9⟩
  ·
   rintro s13 wL ⟨rfl, hE9⟩
   have szs13 := hE9.size
   have hS := hS.trans0 hE9
   refine k_assign rfl rfl ?_
   refine k_assign rfl rfl ?_
   refine k_nil ?_
   refine k_keep [(6, _), (7, _)] ⟨rfl, rfl, trivial⟩ ?_
   refine k_ret ?_
   obtain rfl := Option.some.inj h
   refine ⟨_, rfl, Ret.mk hS ?_⟩
   exact rfl

set_option maxHeartbeats 1000000 in
set_option maxRecDepth 100000 in
theorem disk_picture_find_w {s : St} {l0 : Lab} {v0 : Value} {a0 : (List DiskFile)} {a1 : (List UInt8)} {r : (Int × Bool)} (hp0 : SL s l0 v0 2 (a0.map dDiskFile)) (h : disk_picture_find a0 a1 = some r) : Calls Tryd.prog 51 #[v0, S a1] s.w (Ret s K0 (fun s1 v => v = .tuple #[.int .i64 r.1, .bool r.2])) := by
 unfold disk_picture_find at h
 obtain ⟨lf0, lf0le, lf0ne, hp0⟩ := hp0.fix
 have hS := Step.r0 K0 s
 refine k_fn (rs := [4, 5]) (args := [v0, S a1]) Tryd.func51 rfl rfl rfl rfl ?_
 refine k_seq ?_
 refine k_region ?_
 refine k_assign rfl rfl ?_
 refine k_assign rfl rfl ?_
 refine k_nil ?_
 refine k_seq ?_
 refine k_region ?_
 refine k_move rfl rfl ?_
 refine k_move rfl rfl ?_
 obtain ⟨x1, hx1, h⟩ := ob h
 refine k_call cal60 rfl (slices_BinarySearchFunc_disk_picture_disk_file_string_f61_w  hp0 hx1) rfl ?_
 rintro s1 vr1 st1 rfl
 have szs1 := st1.size
 have hS := hS.trans0 st1
 refine k_extract rfl rfl rfl ?_
 refine k_extract rfl rfl rfl ?_
 refine k_assign rfl rfl ?_
 refine k_assign rfl rfl ?_
 refine k_nil ?_
 refine k_keep [(4, _), (5, _)] ⟨rfl, rfl, trivial⟩ ?_
 refine k_ret ?_
 obtain rfl := Option.some.inj h
 refine ⟨_, rfl, Ret.mk hS ?_⟩
 exact rfl

set_option maxHeartbeats 1000000 in
set_option maxRecDepth 100000 in
theorem disk_picture_bytes_w {s : St} {l0 : Lab} {v0 : Value} {a0 : (List DiskFile)} {a1 : (List UInt8)} {r : (List UInt8)} (hp0 : SL s l0 v0 2 (a0.map dDiskFile)) (h : disk_picture_bytes a0 a1 = some r) : Calls Tryd.prog 39 #[v0, S a1] s.w (Ret s K0 (fun s1 v => ∃ (u0 : Value), v = u0 ∧ R s1 u0 (.sl 1 (r.map bD)))) := by
 unfold disk_picture_bytes at h
 obtain ⟨lf0, lf0le, lf0ne, hp0⟩ := hp0.fix
 have hS := Step.r0 K0 s
 refine k_fn (rs := [4]) (args := [v0, S a1]) Tryd.func39 rfl rfl rfl rfl ?_
 refine k_seq ?_
 refine k_region ?_
 refine k_assign rfl rfl ?_
 refine k_nil ?_
 refine k_seq ?_
 refine k_seq ?_
 refine k_region ?_
 refine k_move rfl rfl ?_
 refine k_move rfl rfl ?_
 obtain ⟨x1, hx1, h⟩ := ob h
 refine k_call cal51 rfl (disk_picture_find_w  hp0 hx1) rfl ?_
 rintro s1 vr1 st1 rfl
 have szs1 := st1.size
 have hS := hS.trans0 st1
 replace hp0 := hp0.up2 st1
 refine k_move rfl rfl ?_
 refine k_extract rfl rfl rfl ?_
 refine k_extract rfl rfl rfl ?_
 refine k_assign rfl rfl ?_
 refine k_assign rfl rfl ?_
 refine k_nil ?_
 refine k_keep [(0, _), (4, _), (5, _), (6, _)] ⟨rfl, rfl, rfl, rfl, trivial⟩ ?_
 refine k_seq ?_
 refine k_region ?_
 refine k_move rfl rfl ?_
 refine k_nil ?_
 refine k_keep [(0, _), (4, _), (5, _), (13, _)] ⟨rfl, rfl, rfl, rfl, trivial⟩ ?_
 refine k_cond rfl (fun c2 => ?_) (fun c2 => ?_)
 ·
  have h := ibT h c2
  refine k_seq ?_
  refine k_region ?_
  refine k_move rfl rfl ?_
  refine k_move rfl rfl ?_
  obtain ⟨x2, hx2, h⟩ := ob h
  refine k_ixaddr Tryd.underlying76 size80 rfl rfl hp0 (geti_out hx2).1 (geti_map hx2) rfl ?_
  intro qx2 hqx2
  refine k_field_at (o := 0) rfl hqx2 (by rfl) fld80_1 rfl ?_
  intro q3 h3
  refine k_load_sl one33 rfl h3 rfl ?_
  intro v4 h4
  refine k_assign rfl rfl ?_
  refine k_nil ?_
  refine k_keep [(4, _)] ⟨rfl, trivial⟩ ?_
  refine k_ret ?_
  obtain rfl := Option.some.inj h
  refine ⟨_, rfl, Ret.mk hS ?_⟩
  exact ⟨_, rfl, h4⟩
 ·
  have h := ibF h c2
  refine k_skip ?_
  refine k_seq ?_
  refine k_region ?_
  refine k_assign rfl rfl ?_
  refine k_nil ?_
  refine k_keep [(4, _)] ⟨rfl, trivial⟩ ?_
  refine k_ret ?_
  obtain rfl := Option.some.inj h
  refine ⟨_, rfl, Ret.mk hS ?_⟩
  exact ⟨_, rfl, (R.of_SL (.inl ⟨rfl, none, 0, rfl, fun _ => rfl⟩))⟩

set_option maxHeartbeats 1000000 in
set_option maxRecDepth 100000 in
theorem slices_Clone_byte_byte_w {s : St} {l0 : Lab} {v0 : Value} {a0 : (List UInt8)} {r : (List UInt8)} (hp0 : SL s l0 v0 1 (a0.map bD)) (h : slices_Clone_byte_byte a0 = some r) : Calls Tryd.prog 34 #[v0] s.w (Ret s K0 (fun s1 v => ∃ (u0 : Value), v = u0 ∧ R s1 u0 (.sl 1 (r.map bD)))) := by
 unfold slices_Clone_byte_byte at h
 obtain ⟨lf0, lf0le, lf0ne, hp0⟩ := hp0.fix
 have hS := Step.r0 K0 s
 refine k_fn (rs := [2]) (args := [v0]) Tryd.func34 rfl rfl rfl rfl ?_
 refine k_seq ?_
 refine k_region ?_
 refine k_assign rfl rfl ?_
 refine k_nil ?_
 refine k_seq ?_
 refine k_seq ?_
 refine k_region ?_
 refine k_move rfl rfl ?_
 refine k_eql_snilv Tryd.underlying33 rfl rfl hp0 rfl ?_
 refine k_nil ?_
 refine k_keep [(0, _), (2, _), (4, _)] ⟨rfl, rfl, rfl, trivial⟩ ?_
 refine k_cond rfl (fun c1 => ?_) (fun c1 => ?_)
 ·
  have hz5 := SL.nilS_nil hp0 c1
  obtain rfl : a0 = [] := by simpa using hz5
  replace h : some ([]) = some r := by simpa [app] using h
  refine k_seq ?_
  refine k_region ?_
  refine k_assign rfl rfl ?_
  refine k_nil ?_
  refine k_keep [(0, _), (2, _)] ⟨rfl, rfl, trivial⟩ ?_
  refine k_ret ?_
  obtain rfl := Option.some.inj h
  refine ⟨_, rfl, Ret.mk hS ?_⟩
  exact ⟨_, rfl, (R.of_SL (.inl ⟨rfl, none, 0, rfl, fun _ => rfl⟩))⟩
 ·
  refine k_skip ?_
  refine k_seq ?_
  refine k_region ?_
  refine k_bslice2 (ds := ([] : List UInt8).map bD) slc33 rfl RVs.nil (by rfl) (by rfl) rfl rfl ?_
  intro s2 v2 b2 st2 ge2 bl2 h2
  have szs2 := st2.size
  have hS := hS.trans0 st2
  replace hp0 := hp0.up2 st2
  have lt2 := Own.le1 h2
  refine k_move rfl rfl ?_
  obtain ⟨x1, hx1, h⟩ := ob h
  refine k_append (es := a0.map bD) elem33 rfl rfl h2 hp0 (by have := (app_out hx1).1; simp only [List.length_map] at *; omega) (by have := (app_out hx1).1; simp only [List.length_map] at *; omega) rfl ?_
  intro s3 v3 st3 h3
  rw [← List.map_append, ← (app_out hx1).2] at h3
  have szs3 := st3.size
  have hS := hS.c0 st3
  refine k_assign rfl rfl ?_
  refine k_nil ?_
  refine k_keep [(2, _)] ⟨rfl, trivial⟩ ?_
  refine k_ret ?_
  obtain ⟨s4, e4, st4, h4⟩ := h3.freeze
  rw [← e4]
  have szs4 := st4.size
  have hS := hS.c0 st4
  obtain rfl := Option.some.inj h
  refine ⟨_, rfl, Ret.mk hS ?_⟩
  exact ⟨_, rfl, h4⟩

set_option maxHeartbeats 1000000 in
set_option maxRecDepth 100000 in
theorem frame_records_w {s : St} {v0 : Value} {a0 : (List UInt8)} {r : (List UInt8)} (hp0 : R s v0 (.sl 1 (a0.map bD))) (h : frame_records a0 = some r) : Calls Tryd.prog 43 #[v0] s.w (Ret s K0 (fun s1 v => ∃ (ub0_0 : Nat), v = .func (.func 53) #[] #[.pointer (some ⟨ub0_0, 0, none⟩)] ∧ s.n ≤ ub0_0 ∧ BoxR s1 ub0_0 33 ((dL 1 bD) r))) := by
 unfold frame_records at h
 have hS := Step.r0 K0 s
 refine k_fn (rs := [2]) (args := [v0]) Tryd.func43 rfl rfl rfl rfl ?_
 refine k_seq ?_
 refine k_region ?_
 refine k_box rfl rfl ?_
 intro s1 b1 st1 h1 ge1
 have szs1 := st1.size
 have hS := hS.trans0 st1
 replace hp0 := hp0.up2 st1
 rw [cells1 ((SL.of_R hp0)).one1] at h1
 have lt1 := h1.lt
 refine k_assign rfl rfl ?_
 refine k_nil ?_
 refine k_keep [(1, _), (2, _)] ⟨rfl, rfl, trivial⟩ ?_
 refine k_seq ?_
 refine k_region ?_
 refine k_makeFunc rfl rfl rfl ?_
 refine k_assign rfl rfl ?_
 refine k_nil ?_
 refine k_keep [(2, _)] ⟨rfl, trivial⟩ ?_
 refine k_ret ?_
 obtain rfl := Option.some.inj h
 refine ⟨_, rfl, Ret.mk hS ?_⟩
 exact ⟨_, rfl, (by omega), ⟨_, h1, hp0⟩⟩

set_option maxHeartbeats 1000000 in
set_option maxRecDepth 100000 in
theorem frame_number_w {s : St} {l0 : Lab} {v0 : Value} {a0 : (List UInt8)} {r : UInt32} (hp0 : SL s l0 v0 1 (a0.map bD)) (h : frame_number a0 = some r) : Calls Tryd.prog 54 #[v0] s.w (Ret s K0 (fun s1 v => v = .int .u32 (r.toNat : Int))) := by
 unfold frame_number at h
 obtain ⟨lf0, lf0le, lf0ne, hp0⟩ := hp0.fix
 have hS := Step.r0 K0 s
 refine k_fn (rs := [2]) (args := [v0]) Tryd.func54 rfl rfl rfl rfl ?_
 refine k_seq ?_
 refine k_region ?_
 refine k_assign rfl rfl ?_
 refine k_nil ?_
 refine k_seq ?_
 refine k_drawT (KN s.n) 22 (.read 0 (.read 1 (.read 2 (.read 3 (.read 4 (.read 5 (.read 6 (.read 7 (.read 8 (.read 9 (.read 10 (.read 11 (.read 12 (.read 13 (.read 14 (.read 15 (.read 16 (.read 17 (.read 18 (.read 19 (.read 20 (.read 21 .fin)))))))))))))))))))))) mixed (by intro c h; (try simp only [KC, KO, KU, KN, KB] at h) <;> omega) rfl rfl rfl ?_
 intro s1 st1
 have szs1 := st1.size
 have hS := hS.trans0 st1
 replace hp0 := hp0.up2 st1
 refine rt_read (v0) rfl rfl (fun s2 st2 => ?_) ?_
 ·refine k_move rfl rfl ?_
  exact fq_end
 obtain ⟨x1, hx1, h⟩ := ob h
 refine rt_ix rfl (wanted_none rfl) Tryd.underlying33 size5 rfl rfl hp0 (geti_out hx1).1 (geti_map hx1) rfl ?_
 intro q3 hq3
 refine rt_read (.int .u8 (x1.toNat : Int)) rfl rfl (fun s4 st4 => ?_) ?_
 ·try replace hq3 := hq3.up2 st4
  refine k_load_val one5 rfl hq3 rfl ?_
  exact fq_end
 refine rt_read (.int .u32 ((ofI32 (x1.toNat : Int)).toNat : Int)) rfl rfl (fun s5 st5 => ?_) ?_
 ·refine k_conv (p := (x1.toNat : Int)) Tryd.underlying5 Tryd.underlying49 rfl rfl ?_
  refine k_as (congrArg (Value.int .u32) (w32 _)) ?_
  exact fq_end
 refine rt_read (.int .u32 ((ofI32 (((ofI32 (x1.toNat : Int)).toNat : Int) * 2 ^ (min (24 : Int).toNat 32))).toNat : Int)) rfl rfl (fun s6 st6 => ?_) ?_
 ·refine k_shl rfl rfl (by decide) rfl ?_
  refine k_as (congrArg (Value.int .u32) (w32 _)) ?_
  exact fq_end
 refine rt_read (v0) rfl rfl (fun s7 st7 => ?_) ?_
 ·refine k_move rfl rfl ?_
  exact fq_end
 obtain ⟨x2, hx2, h⟩ := ob h
 refine rt_ix rfl (wanted_none rfl) Tryd.underlying33 size5 rfl rfl hp0 (geti_out hx2).1 (geti_map hx2) rfl ?_
 intro q8 hq8
 refine rt_read (.int .u8 (x2.toNat : Int)) rfl rfl (fun s9 st9 => ?_) ?_
 ·try replace hq8 := hq8.up2 st9
  refine k_load_val one5 rfl hq8 rfl ?_
  exact fq_end
 refine rt_read (.int .u32 ((ofI32 (x2.toNat : Int)).toNat : Int)) rfl rfl (fun s10 st10 => ?_) ?_
 ·refine k_conv (p := (x2.toNat : Int)) Tryd.underlying5 Tryd.underlying49 rfl rfl ?_
  refine k_as (congrArg (Value.int .u32) (w32 _)) ?_
  exact fq_end
 refine rt_read (.int .u32 ((ofI32 (((ofI32 (x2.toNat : Int)).toNat : Int) * 2 ^ (min (16 : Int).toNat 32))).toNat : Int)) rfl rfl (fun s11 st11 => ?_) ?_
 ·refine k_shl rfl rfl (by decide) rfl ?_
  refine k_as (congrArg (Value.int .u32) (w32 _)) ?_
  exact fq_end
 refine rt_read (.int .u32 (((ofI32 (((ofI32 (x1.toNat : Int)).toNat : Int) * 2 ^ (min (24 : Int).toNat 32))) ||| (ofI32 (((ofI32 (x2.toNat : Int)).toNat : Int) * 2 ^ (min (16 : Int).toNat 32)))).toNat : Int)) rfl rfl (fun s12 st12 => ?_) ?_
 ·refine k_bits (p := ((ofI32 (((ofI32 (x1.toNat : Int)).toNat : Int) * 2 ^ (min (24 : Int).toNat 32))).toNat : Int)) (q := ((ofI32 (((ofI32 (x2.toNat : Int)).toNat : Int) * 2 ^ (min (16 : Int).toNat 32))).toNat : Int)) (.inr (.inl ⟨rfl, rfl⟩)) rfl rfl rfl ?_
  refine k_as (congrArg (Value.int .u32) (or32 _ _)) ?_
  exact fq_end
 refine rt_read (v0) rfl rfl (fun s13 st13 => ?_) ?_
 ·refine k_move rfl rfl ?_
  exact fq_end
 obtain ⟨x3, hx3, h⟩ := ob h
 refine rt_ix rfl (wanted_none rfl) Tryd.underlying33 size5 rfl rfl hp0 (geti_out hx3).1 (geti_map hx3) rfl ?_
 intro q14 hq14
 refine rt_read (.int .u8 (x3.toNat : Int)) rfl rfl (fun s15 st15 => ?_) ?_
 ·try replace hq14 := hq14.up2 st15
  refine k_load_val one5 rfl hq14 rfl ?_
  exact fq_end
 refine rt_read (.int .u32 ((ofI32 (x3.toNat : Int)).toNat : Int)) rfl rfl (fun s16 st16 => ?_) ?_
 ·refine k_conv (p := (x3.toNat : Int)) Tryd.underlying5 Tryd.underlying49 rfl rfl ?_
  refine k_as (congrArg (Value.int .u32) (w32 _)) ?_
  exact fq_end
 refine rt_read (.int .u32 ((ofI32 (((ofI32 (x3.toNat : Int)).toNat : Int) * 2 ^ (min (8 : Int).toNat 32))).toNat : Int)) rfl rfl (fun s17 st17 => ?_) ?_
 ·refine k_shl rfl rfl (by decide) rfl ?_
  refine k_as (congrArg (Value.int .u32) (w32 _)) ?_
  exact fq_end
 refine rt_read (.int .u32 ((((ofI32 (((ofI32 (x1.toNat : Int)).toNat : Int) * 2 ^ (min (24 : Int).toNat 32))) ||| (ofI32 (((ofI32 (x2.toNat : Int)).toNat : Int) * 2 ^ (min (16 : Int).toNat 32)))) ||| (ofI32 (((ofI32 (x3.toNat : Int)).toNat : Int) * 2 ^ (min (8 : Int).toNat 32)))).toNat : Int)) rfl rfl (fun s18 st18 => ?_) ?_
 ·refine k_bits (p := (((ofI32 (((ofI32 (x1.toNat : Int)).toNat : Int) * 2 ^ (min (24 : Int).toNat 32))) ||| (ofI32 (((ofI32 (x2.toNat : Int)).toNat : Int) * 2 ^ (min (16 : Int).toNat 32)))).toNat : Int)) (q := ((ofI32 (((ofI32 (x3.toNat : Int)).toNat : Int) * 2 ^ (min (8 : Int).toNat 32))).toNat : Int)) (.inr (.inl ⟨rfl, rfl⟩)) rfl rfl rfl ?_
  refine k_as (congrArg (Value.int .u32) (or32 _ _)) ?_
  exact fq_end
 refine rt_read (v0) rfl rfl (fun s19 st19 => ?_) ?_
 ·refine k_move rfl rfl ?_
  exact fq_end
 obtain ⟨x4, hx4, h⟩ := ob h
 refine rt_ix rfl (wanted_none rfl) Tryd.underlying33 size5 rfl rfl hp0 (geti_out hx4).1 (geti_map hx4) rfl ?_
 intro q20 hq20
 refine rt_read (.int .u8 (x4.toNat : Int)) rfl rfl (fun s21 st21 => ?_) ?_
 ·try replace hq20 := hq20.up2 st21
  refine k_load_val one5 rfl hq20 rfl ?_
  exact fq_end
 refine rt_read (.int .u32 ((ofI32 (x4.toNat : Int)).toNat : Int)) rfl rfl (fun s22 st22 => ?_) ?_
 ·refine k_conv (p := (x4.toNat : Int)) Tryd.underlying5 Tryd.underlying49 rfl rfl ?_
  refine k_as (congrArg (Value.int .u32) (w32 _)) ?_
  exact fq_end
 refine rt_read (.int .u32 (((((ofI32 (((ofI32 (x1.toNat : Int)).toNat : Int) * 2 ^ (min (24 : Int).toNat 32))) ||| (ofI32 (((ofI32 (x2.toNat : Int)).toNat : Int) * 2 ^ (min (16 : Int).toNat 32)))) ||| (ofI32 (((ofI32 (x3.toNat : Int)).toNat : Int) * 2 ^ (min (8 : Int).toNat 32)))) ||| (ofI32 (x4.toNat : Int))).toNat : Int)) rfl rfl (fun s23 st23 => ?_) ?_
 ·refine k_bits (p := ((((ofI32 (((ofI32 (x1.toNat : Int)).toNat : Int) * 2 ^ (min (24 : Int).toNat 32))) ||| (ofI32 (((ofI32 (x2.toNat : Int)).toNat : Int) * 2 ^ (min (16 : Int).toNat 32)))) ||| (ofI32 (((ofI32 (x3.toNat : Int)).toNat : Int) * 2 ^ (min (8 : Int).toNat 32)))).toNat : Int)) (q := ((ofI32 (x4.toNat : Int)).toNat : Int)) (.inr (.inl ⟨rfl, rfl⟩)) rfl rfl rfl ?_
  refine k_as (congrArg (Value.int .u32) (or32 _ _)) ?_
  exact fq_end
 refine rt_fin ?_
 refine k_assign rfl rfl ?_
 refine k_nil ?_
 refine k_keep [(2, _)] ⟨rfl, trivial⟩ ?_
 refine k_ret ?_
 obtain rfl := Option.some.inj h
 refine ⟨_, rfl, Ret.mk hS ?_⟩
 exact rfl

set_option maxHeartbeats 1000000 in
set_option maxRecDepth 100000 in
theorem frame_word_w {s : St} {a0 : UInt32} {r : (List UInt8)}  (h : frame_word a0 = some r) : Calls Tryd.prog 46 #[.int .u32 (a0.toNat : Int)] s.w (Ret s K0 (fun s1 v => ∃ (u0 : Value), v = u0 ∧ R s1 u0 (.sl 1 (r.map bD)))) := by
 unfold frame_word at h
 have hS := Step.r0 K0 s
 refine k_fn (rs := [2]) (args := [.int .u32 (a0.toNat : Int)]) Tryd.func46 rfl rfl rfl rfl ?_
 refine k_seq ?_
 refine k_region ?_
 refine k_assign rfl rfl ?_
 refine k_nil ?_
 refine k_seq ?_
 refine k_region ?_
 refine k_move rfl rfl ?_
 refine k_shr (p := (a0.toNat : Int)) rfl rfl (by decide) rfl ?_
 refine k_as (congrArg (Value.int .u32) (shr32_eq _ _)) ?_
 refine k_conv (p := ((shr32 a0 24).toNat : Int)) Tryd.underlying49 Tryd.underlying5 rfl rfl ?_
 refine k_as (congrArg (Value.int .u8) (w8 _)) ?_
 refine k_move rfl rfl ?_
 refine k_shr (p := (a0.toNat : Int)) rfl rfl (by decide) rfl ?_
 refine k_as (congrArg (Value.int .u32) (shr32_eq _ _)) ?_
 refine k_conv (p := ((shr32 a0 16).toNat : Int)) Tryd.underlying49 Tryd.underlying5 rfl rfl ?_
 refine k_as (congrArg (Value.int .u8) (w8 _)) ?_
 refine k_move rfl rfl ?_
 refine k_shr (p := (a0.toNat : Int)) rfl rfl (by decide) rfl ?_
 refine k_as (congrArg (Value.int .u32) (shr32_eq _ _)) ?_
 refine k_conv (p := ((shr32 a0 8).toNat : Int)) Tryd.underlying49 Tryd.underlying5 rfl rfl ?_
 refine k_as (congrArg (Value.int .u8) (w8 _)) ?_
 refine k_move rfl rfl ?_
 refine k_conv (p := (a0.toNat : Int)) Tryd.underlying49 Tryd.underlying5 rfl rfl ?_
 refine k_as (congrArg (Value.int .u8) (w8 _)) ?_
 refine k_bslice2 (ds := ([ofI8 ((shr32 a0 24).toNat : Int), ofI8 ((shr32 a0 16).toNat : Int), ofI8 ((shr32 a0 8).toNat : Int), ofI8 (a0.toNat : Int)] : List UInt8).map bD) slc33 rfl (RVs.cons (R.val rfl) (RVs.cons (R.val rfl) (RVs.cons (R.val rfl) (RVs.cons (R.val rfl) RVs.nil)))) (by rfl) (by rfl) rfl rfl ?_
 intro s1 v1 b1 st1 ge1 bl1 h1
 have szs1 := st1.size
 have hS := hS.trans0 st1
 have lt1 := Own.le1 h1
 refine k_assign rfl rfl ?_
 refine k_nil ?_
 refine k_keep [(2, _)] ⟨rfl, trivial⟩ ?_
 refine k_ret ?_
 obtain ⟨s2, e2, st2, h2⟩ := h1.freeze
 rw [← e2]
 have szs2 := st2.size
 have hS := hS.c0 st2
 obtain rfl := Option.some.inj h
 refine ⟨_, rfl, Ret.mk hS ?_⟩
 exact ⟨_, rfl, h2⟩

set_option maxHeartbeats 1000000 in
set_option maxRecDepth 100000 in
theorem slices_Reverse_byte_byte_w {s : St} {l0 : Lab} {v0 : Value} {a0 : (List UInt8)} {r : (List UInt8)} (hp0 : Own s l0 5 1 v0 (a0.map bD)) (hlle0 : l0.o ≤ s.n) (h : slices_Reverse_byte_byte a0 = some r) : Calls Tryd.prog 56 #[v0] s.w (Ret s (KC l0.o l0.c) (fun s1 v => v = .tuple #[] ∧ Own s1 l0 5 1 v0 (r.map bD))) := by
 unfold slices_Reverse_byte_byte at h
 have lp0 := Own.le1 hp0
 have hS := Step.r0 (KC l0.o l0.c) s
 refine k_fn (rs := []) (args := [v0]) Tryd.func56 rfl rfl rfl rfl ?_
 refine k_seq ?_
 refine k_region ?_
 refine k_move rfl rfl ?_
 refine k_len Tryd.underlying33 rfl (hp0.sl).hasLen rfl ?_
 refine k_as (v := .int .i64 (a0.length : Int)) (by simp only [List.length_map]) ?_
 refine k_sub_ rfl rfl rfl ?_
 refine k_assign rfl rfl ?_
 refine k_assign rfl rfl ?_
 refine k_nil ?_
 refine k_keep [(0, _), (2, _), (3, _)] ⟨rfl, rfl, rfl, trivial⟩ ?_
 refine k_block ?_
 refine k_loopc (X := St × Int × Int × (List UInt8) × Nat) [(0, _)] (fun (xL : St × Int × Int × (List UInt8) × Nat) => match xL with | (sl, x1, x2, x3, j) => [(2, .int .i64 x1), (3, .int .i64 x2)]) (fun (xL : St × Int × Int × (List UInt8) × Nat) (wL : World) => match xL with | (sl, x1, x2, x3, j) => sl.w = wL ∧ Step (KC l0.o l0.c) s sl ∧ (Own sl ⟨l0.o, l0.c⟩ 5 1 v0 (x3.map bD)) ∧ slices_Reverse_byte_byte_l1  j x1 x2 x3 = some r) (fun (xL : St × Int × Int × (List UInt8) × Nat) => match xL with | (sl, x1, x2, x3, j) => j) (s, 0, i64 ((a0.length : Int) - 1), a0, FU) ⟨rfl, trivial⟩ ⟨(by first | rfl | (simp <;> rfl)), (by first | rfl | (simp <;> rfl)), trivial⟩ ⟨rfl, (Step.refl _).of0 (by first | exact fun _ h => h | (intro c h; simp [KC, KO, KU, KN, KB] at h <;> omega)), hp0, h⟩ ?_
 rintro ⟨s2, x1, x2, x3, j⟩ wL ⟨rfl, hE1, hp0, h⟩
 cases j with
 | zero => rw [slices_Reverse_byte_byte_l1] at h; exact (noneNe h).elim
 | succ j =>
 rw [slices_Reverse_byte_byte_l1] at h
 have szs2 := hE1.size
 have hS := hS.c0 hE1
 refine k_seq ?_
 refine k_seq ?_
 refine k_region ?_
 refine k_move rfl rfl ?_
 refine k_move rfl rfl ?_
 refine k_lss rfl rfl rfl ?_
 refine k_nil ?_
 refine k_keep [(0, _), (2, _), (3, _), (9, _)] ⟨rfl, rfl, rfl, rfl, trivial⟩ ?_
 refine k_cond_dec rfl (fun c3 => ?_) (fun c3 => ?_)
 ·
  have h := itT h c3
  refine k_skip ?_
  refine k_seq ?_
  refine k_block ?_
  refine k_keep [(0, _), (2, _), (3, _)] ⟨rfl, rfl, rfl, trivial⟩ ?_
  obtain ⟨x4, hx4, h⟩ := ob h
  obtain ⟨x5, hx5, h⟩ := ob h
  obtain ⟨x6, hx6, h⟩ := ob h
  have hp0_d := hp0
  refine k_drawT (KU (KN s2.n) (KC l0.o l0.c)) 14 (.read 0 (.read 1 (.read 2 (.read 3 (.read 4 (.read 5 (.read 6 (.read 8 (.read 9 (.read 10 (.alt 7 (.alt 11 (.read 12 (.alt 13 .fin .no)) .no) (.alt 11 (.alt 7 (.read 12 (.alt 13 .fin .no)) .no) .no)))))))))))) mixed (by intro c h; (try simp only [KC, KO, KU, KN, KB] at h) <;> omega) rfl rfl rfl ?_
  intro s4 st4
  have szs4 := st4.size
  have hS := hS.trans0 st4
  have hE1 := hE1.trans0 st4
  replace hp0 := hp0.up2 st4
  refine rt_read (v0) rfl rfl (fun s5 st5 => ?_) ?_
  ·refine k_move rfl rfl ?_
   exact fq_end
  refine rt_read (.int .i64 x1) rfl rfl (fun s6 st6 => ?_) ?_
  ·refine k_move rfl rfl ?_
   exact fq_end
  refine rt_read (v0) rfl rfl (fun s7 st7 => ?_) ?_
  ·refine k_move rfl rfl ?_
   exact fq_end
  refine rt_read (.int .i64 x2) rfl rfl (fun s8 st8 => ?_) ?_
  ·refine k_move rfl rfl ?_
   exact fq_end
  refine rt_read (v0) rfl rfl (fun s9 st9 => ?_) ?_
  ·refine k_move rfl rfl ?_
   exact fq_end
  refine rt_read (.int .i64 x2) rfl rfl (fun s10 st10 => ?_) ?_
  ·refine k_move rfl rfl ?_
   exact fq_end
  have ln11 : l0.o ≤ s2.n := Own.le_ne hp0_d (geti_mne hx4)
  refine rt_ix_own rfl (wanted_none rfl) Tryd.underlying33 size5 rfl rfl hp0 (geti_out hx4).1 (geti_map hx4) rfl ?_
  intro q11 hq11 heq11
  refine rt_read (v0) rfl rfl (fun s12 st12 => ?_) ?_
  ·refine k_move rfl rfl ?_
   exact fq_end
  refine rt_read (.int .i64 x1) rfl rfl (fun s13 st13 => ?_) ?_
  ·refine k_move rfl rfl ?_
   exact fq_end
  have ln14 : l0.o ≤ s2.n := Own.le_ne hp0_d (geti_mne hx6)
  refine rt_ix_own rfl (wanted_none rfl) Tryd.underlying33 size5 rfl rfl hp0 (geti_out hx6).1 (geti_map hx6) rfl ?_
  intro q14 hq14 heq14
  refine rt_alt rfl rfl ?_ ?_
  ·
   have hA15 := Step.r0 (KU (KN s2.n) (KC l0.o l0.c)) s4
   refine k_load_val one5 rfl hq11 rfl ?_
   refine rt_cont hA15 ?_
   refine rt_act rfl rfl ?_
   have hA16 := Step.r0 (KU (KN s2.n) (KC l0.o l0.c)) s4
   refine k_load_val one5 rfl hq14 rfl ?_
   refine rt_cont hA16 ?_
   have ln17 : l0.o ≤ s2.n := Own.le_ne hp0_d (geti_mne hx6)
   refine rt_ix_own rfl (wanted_none rfl) Tryd.underlying33 size5 rfl rfl hp0 (geti_out hx6).1 (geti_map hx6) rfl ?_
   intro q17 hq17 heq17
   refine rt_act0 rfl rfl ?_
   have hA18 := Step.r0 (KU (KN s2.n) (KC l0.o l0.c)) s4
   refine k_store_elt (dd := bD x4) size5 rfl rfl hp0 heq17 (by rw [List.length_map]; exact (List.getElem?_eq_some_iff.1 (geti_out hx6).2.2).1) (R.val rfl) rfl ?_
   intro s19 st19 hp0
   rw [← List.map_set] at hp0
   have szs19 := st19.size
   have hS := hS.c0 st19
   have hE1 := hE1.c0 st19
   have hA18 := hA18.c0 st19
   refine rt_cont0 hA18 ?_
   refine rt_fin ?_
   obtain ⟨x7, hx7, h⟩ := ob h
   refine k_ixaddr_own Tryd.underlying33 size5 rfl rfl hp0 (geti_out hx7).1 (geti_map hx7) rfl ?_
   intro qx7 hqx7 heqx7
   refine k_store_elt (dd := bD x6) size5 rfl rfl hp0 heqx7 (by rw [List.length_map]; exact (List.getElem?_eq_some_iff.1 (geti_out hx7).2.2).1) (R.val rfl) rfl ?_
   intro s20 st20 hp0
   rw [← List.map_set] at hp0
   have szs20 := st20.size
   have hS := hS.c0 st20
   have hE1 := hE1.c0 st20
   refine k_nil ?_
   refine k_blk ?_
   refine k_region ?_
   refine k_move rfl rfl ?_
   refine k_add rfl rfl rfl ?_
   refine k_move rfl rfl ?_
   refine k_sub_ rfl rfl rfl ?_
   refine k_assign rfl rfl ?_
   refine k_assign rfl rfl ?_
   refine k_nil ?_
   exact k_stop ⟨(s20, i64 (x1 + 1), i64 (x2 - 1), (x3.set (x1 : Int).toNat x4).set (x2 : Int).toNat x6, j), ⟨(by first | rfl | (simp <;> rfl)), (by first | rfl | (simp <;> rfl)), trivial⟩, ⟨rfl, trivial⟩, ⟨rfl, hE1, hp0, h⟩, (by simp)⟩
  ·
   refine rt_act rfl rfl ?_
   have hA21 := Step.r0 (KU (KN s2.n) (KC l0.o l0.c)) s4
   refine k_load_val one5 rfl hq14 rfl ?_
   refine rt_cont hA21 ?_
   refine rt_act rfl rfl ?_
   have hA22 := Step.r0 (KU (KN s2.n) (KC l0.o l0.c)) s4
   refine k_load_val one5 rfl hq11 rfl ?_
   refine rt_cont hA22 ?_
   have ln23 : l0.o ≤ s2.n := Own.le_ne hp0_d (geti_mne hx6)
   refine rt_ix_own rfl (wanted_none rfl) Tryd.underlying33 size5 rfl rfl hp0 (geti_out hx6).1 (geti_map hx6) rfl ?_
   intro q23 hq23 heq23
   refine rt_act0 rfl rfl ?_
   have hA24 := Step.r0 (KU (KN s2.n) (KC l0.o l0.c)) s4
   refine k_store_elt (dd := bD x4) size5 rfl rfl hp0 heq23 (by rw [List.length_map]; exact (List.getElem?_eq_some_iff.1 (geti_out hx6).2.2).1) (R.val rfl) rfl ?_
   intro s25 st25 hp0
   rw [← List.map_set] at hp0
   have szs25 := st25.size
   have hS := hS.c0 st25
   have hE1 := hE1.c0 st25
   have hA24 := hA24.c0 st25
   refine rt_cont0 hA24 ?_
   refine rt_fin ?_
   obtain ⟨x8, hx8, h⟩ := ob h
   refine k_ixaddr_own Tryd.underlying33 size5 rfl rfl hp0 (geti_out hx8).1 (geti_map hx8) rfl ?_
   intro qx8 hqx8 heqx8
   refine k_store_elt (dd := bD x6) size5 rfl rfl hp0 heqx8 (by rw [List.length_map]; exact (List.getElem?_eq_some_iff.1 (geti_out hx8).2.2).1) (R.val rfl) rfl ?_
   intro s26 st26 hp0
   rw [← List.map_set] at hp0
   have szs26 := st26.size
   have hS := hS.c0 st26
   have hE1 := hE1.c0 st26
   refine k_nil ?_
   refine k_blk ?_
   refine k_region ?_
   refine k_move rfl rfl ?_
   refine k_add rfl rfl rfl ?_
   refine k_move rfl rfl ?_
   refine k_sub_ rfl rfl rfl ?_
   refine k_assign rfl rfl ?_
   refine k_assign rfl rfl ?_
   refine k_nil ?_
   exact k_stop ⟨(s26, i64 (x1 + 1), i64 (x2 - 1), (x3.set (x1 : Int).toNat x4).set (x2 : Int).toNat x6, j), ⟨(by first | rfl | (simp <;> rfl)), (by first | rfl | (simp <;> rfl)), trivial⟩, ⟨rfl, trivial⟩, ⟨rfl, hE1, hp0, h⟩, (by simp)⟩
 ·
  have h := itF h c3
  refine k_exit rfl ?_
  refine k_end ?_
  obtain rfl := Option.some.inj h
  refine ⟨_, rfl, Ret.mk hS ?_⟩
  exact ⟨rfl, hp0⟩

set_option maxHeartbeats 1000000 in
set_option maxRecDepth 100000 in
theorem frame_word_own_w {s : St} {a0 : UInt32} {r : (List UInt8)}  (h : frame_word a0 = some r) : Calls Tryd.prog 46 #[.int .u32 (a0.toNat : Int)] s.w (Ret s K0 (fun s1 v => ∃ (u0 : Value), ∃ (lu0 : Lab), v = u0 ∧ (s.n < lu0.o ∧ lu0.c = 0) ∧ Own s1 lu0 5 1 u0 (r.map bD))) := by
 unfold frame_word at h
 have hS := Step.r0 K0 s
 refine k_fn (rs := [2]) (args := [.int .u32 (a0.toNat : Int)]) Tryd.func46 rfl rfl rfl rfl ?_
 refine k_seq ?_
 refine k_region ?_
 refine k_assign rfl rfl ?_
 refine k_nil ?_
 refine k_seq ?_
 refine k_region ?_
 refine k_move rfl rfl ?_
 refine k_shr (p := (a0.toNat : Int)) rfl rfl (by decide) rfl ?_
 refine k_as (congrArg (Value.int .u32) (shr32_eq _ _)) ?_
 refine k_conv (p := ((shr32 a0 24).toNat : Int)) Tryd.underlying49 Tryd.underlying5 rfl rfl ?_
 refine k_as (congrArg (Value.int .u8) (w8 _)) ?_
 refine k_move rfl rfl ?_
 refine k_shr (p := (a0.toNat : Int)) rfl rfl (by decide) rfl ?_
 refine k_as (congrArg (Value.int .u32) (shr32_eq _ _)) ?_
 refine k_conv (p := ((shr32 a0 16).toNat : Int)) Tryd.underlying49 Tryd.underlying5 rfl rfl ?_
 refine k_as (congrArg (Value.int .u8) (w8 _)) ?_
 refine k_move rfl rfl ?_
 refine k_shr (p := (a0.toNat : Int)) rfl rfl (by decide) rfl ?_
 refine k_as (congrArg (Value.int .u32) (shr32_eq _ _)) ?_
 refine k_conv (p := ((shr32 a0 8).toNat : Int)) Tryd.underlying49 Tryd.underlying5 rfl rfl ?_
 refine k_as (congrArg (Value.int .u8) (w8 _)) ?_
 refine k_move rfl rfl ?_
 refine k_conv (p := (a0.toNat : Int)) Tryd.underlying49 Tryd.underlying5 rfl rfl ?_
 refine k_as (congrArg (Value.int .u8) (w8 _)) ?_
 refine k_bslice2 (ds := ([ofI8 ((shr32 a0 24).toNat : Int), ofI8 ((shr32 a0 16).toNat : Int), ofI8 ((shr32 a0 8).toNat : Int), ofI8 (a0.toNat : Int)] : List UInt8).map bD) slc33 rfl (RVs.cons (R.val rfl) (RVs.cons (R.val rfl) (RVs.cons (R.val rfl) (RVs.cons (R.val rfl) RVs.nil)))) (by rfl) (by rfl) rfl rfl ?_
 intro s1 v1 b1 st1 ge1 bl1 h1
 have szs1 := st1.size
 have hS := hS.trans0 st1
 have lt1 := Own.le1 h1
 refine k_assign rfl rfl ?_
 refine k_nil ?_
 refine k_keep [(2, _)] ⟨rfl, trivial⟩ ?_
 refine k_ret ?_
 obtain rfl := Option.some.inj h
 refine ⟨_, rfl, Ret.mk hS ?_⟩
 exact ⟨_, ⟨b1 + 1, 0⟩, rfl, ⟨by (try dsimp only); omega, rfl⟩, h1⟩

set_option maxHeartbeats 1000000 in
set_option maxRecDepth 100000 in
theorem frame_turns_w {s : St}  {r : (List UInt32)}  (h : frame_turns = some r) : Calls Tryd.prog 65 #[] s.w (Ret s K0 (fun s1 v => v = .agg ([] ++ r.map cU).toArray ∧ r.length = 256)) := by
 unfold frame_turns at h
 have hS := Step.r0 K0 s
 refine k_fn_c (rs := [.cell 0 118]) (args := []) Tryd.func65 rfl rfl rfl rfl ?_
 refine k_seq ?_
 refine k_region ?_
 refine k_alloc zero118 rfl ?_
 intro s1 b1 st1 h1 ge1
 have szs1 := st1.size
 have hS := hS.trans0 st1
 have lt1 := h1.lt
 refine k_nil ?_
 refine k_seq ?_
 obtain ⟨kj1, hK2, h⟩ := jn_out h
 have hE2 := Step.r0 (KC (b1 + 1) 0) s1
 refine k_cutc (X := St × (List UInt32)) [(0, .pointer (some ⟨b1, 0, none⟩))] (fun (xL : St × (List UInt32)) => match xL with | (sl, x2) => []) (fun (xL : St × (List UInt32)) (wL : World) => match xL with | (sl, x2) => sl.w = wL ∧ Step (KC (b1 + 1) 0) s1 sl ∧ (x2.length = 256) ∧ (Blk sl b1 ⟨b1 + 1, 0⟩ (([] : List Value) ++ x2.map cU) 118) ∧ kj1 x2 = some r) ?_ ?_
 ·
  refine k_seq ?_
  refine k_region ?_
  refine k_move rfl rfl ?_
  refine k_nil ?_
  refine k_block ?_
  refine k_loopc (X := St × Int × (List UInt32) × Nat) [(0, _)] (fun (xL : St × Int × (List UInt32) × Nat) => match xL with | (sl, x3, x4, j) => [(4, .int .i64 x3)]) (fun (xL : St × Int × (List UInt32) × Nat) (wL : World) => match xL with | (sl, x3, x4, j) => sl.w = wL ∧ Step (KC (b1 + 1) 0) s1 sl ∧ (x4.length = 256) ∧ (Blk sl b1 ⟨b1 + 1, 0⟩ (([] : List Value) ++ x4.map cU) 118) ∧ frame_turns_l1 kj1 j x3 x4 = some r) (fun (xL : St × Int × (List UInt32) × Nat) => match xL with | (sl, x3, x4, j) => j) (s1, 0, (List.replicate 256 (0 : UInt32)), FU) ⟨rfl, trivial⟩ ⟨(by first | rfl | (simp <;> rfl)), trivial⟩ ⟨rfl, (Step.refl _).of0 (by first | exact fun _ h => h | (intro c h; simp [KC, KO, KU, KN, KB] at h <;> omega)), (List.length_replicate), h1, h⟩ ?_
  rintro ⟨s6, x3, x4, j⟩ wL ⟨rfl, hE4, h5, h1, h⟩
  cases j with
  | zero => rw [frame_turns_l1] at h; exact (noneNe h).elim
  | succ j =>
  rw [frame_turns_l1] at h
  have szs6 := hE4.size
  have hS := hS.c0 hE4
  have hE2 := hE2.c0 hE4
  obtain ⟨kj5, hkj5, h⟩ := jn_out h
  refine k_seq ?_
  refine k_region ?_
  refine k_lss rfl rfl rfl ?_
  refine k_nil ?_
  refine k_seq ?_
  refine k_cond_dec rfl (fun c7 => ?_) (fun c7 => ?_)
  ·
   have h := itT h c7
   refine k_skip ?_
   refine k_seq ?_
   refine k_keep [(0, _), (4, _)] ⟨rfl, rfl, trivial⟩ ?_
   obtain ⟨kj6, hK8, h⟩ := jn_out h
   have hE8 := Step.r0 (KC (b1 + 1) 0) s6
   refine k_cutc (X := St × (List UInt32)) [(0, .pointer (some ⟨b1, 0, none⟩)), (4, .int .i64 x3)] (fun (xL : St × (List UInt32)) => match xL with | (sl, x7) => []) (fun (xL : St × (List UInt32)) (wL : World) => match xL with | (sl, x7) => sl.w = wL ∧ Step (KC (b1 + 1) 0) s6 sl ∧ (x7.length = 256) ∧ (Blk sl b1 ⟨b1 + 1, 0⟩ (([] : List Value) ++ x7.map cU) 118) ∧ kj6 x7 = some r) ?_ ?_
   ·
    refine k_block ?_
    refine k_seq ?_
    refine k_region ?_
    refine k_move rfl rfl ?_
    refine k_assign rfl rfl ?_
    refine k_nil ?_
    refine k_keep [(0, _), (1, _), (4, _)] ⟨rfl, rfl, rfl, trivial⟩ ?_
    refine k_seq ?_
    refine k_region ?_
    refine k_move rfl rfl ?_
    refine k_conv (p := x3) Tryd.underlying3 Tryd.underlying49 rfl rfl ?_
    refine k_as (congrArg (Value.int .u32) (w32 _)) ?_
    refine k_assign rfl rfl ?_
    refine k_nil ?_
    refine k_keep [(0, _), (1, _), (2, _), (4, _)] ⟨rfl, rfl, rfl, rfl, trivial⟩ ?_
    refine k_seq ?_
    obtain ⟨kj8, hK10, h⟩ := jn_out h
    have hE10 := Step.r0 K0 s6
    refine k_cutc (X := St × UInt32) [(0, .pointer (some ⟨b1, 0, none⟩)), (1, .int .i64 x3), (4, .int .i64 x3)] (fun (xL : St × UInt32) => match xL with | (sl, x9) => [(2, .int .u32 (x9.toNat : Int))]) (fun (xL : St × UInt32) (wL : World) => match xL with | (sl, x9) => sl.w = wL ∧ Step K0 s6 sl ∧ kj8 x9 = some r) ?_ ?_
    ·
     refine k_seq ?_
     refine k_region ?_
     refine k_move rfl rfl ?_
     refine k_nil ?_
     refine k_block ?_
     refine k_loopc (X := St × UInt32 × Int × Nat) [(0, _), (1, _), (4, _)] (fun (xL : St × UInt32 × Int × Nat) => match xL with | (sl, x10, x11, j) => [(2, .int .u32 (x10.toNat : Int)), (9, .int .i64 x11)]) (fun (xL : St × UInt32 × Int × Nat) (wL : World) => match xL with | (sl, x10, x11, j) => sl.w = wL ∧ Step K0 s6 sl ∧ frame_turns_l2 kj8 j x10 x11 = some r) (fun (xL : St × UInt32 × Int × Nat) => match xL with | (sl, x10, x11, j) => j) (s6, ofI32 x3, 0, FU) ⟨rfl, rfl, rfl, trivial⟩ ⟨(by first | rfl | (simp <;> rfl)), (by first | rfl | (simp <;> rfl)), trivial⟩ ⟨rfl, (Step.refl _).of0 (by first | exact fun _ h => h | (intro c h; simp [KC, KO, KU, KN, KB] at h <;> omega)), h⟩ ?_
     rintro ⟨s12, x10, x11, j⟩ wL ⟨rfl, hE11, h⟩
     cases j with
     | zero => rw [frame_turns_l2] at h; exact (noneNe h).elim
     | succ j =>
     rw [frame_turns_l2] at h
     have szs12 := hE11.size
     have hS := hS.trans0 hE11
     have hE2 := hE2.trans0 hE11
     have hE4 := hE4.trans0 hE11
     have hE8 := hE8.trans0 hE11
     have hE10 := hE10.trans0 hE11
     refine k_seq ?_
     refine k_region ?_
     refine k_lss rfl rfl rfl ?_
     refine k_nil ?_
     refine k_seq ?_
     refine k_cond_dec rfl (fun c13 => ?_) (fun c13 => ?_)
     ·
      have h := itT h c13
      refine k_skip ?_
      refine k_seq ?_
      refine k_block ?_
      refine k_seq ?_
      refine k_region ?_
      refine k_move rfl rfl ?_
      refine k_bits (p := (x10.toNat : Int)) (q := ((1 : UInt32).toNat : Int)) (.inl ⟨rfl, rfl⟩) rfl rfl rfl ?_
      refine k_as (congrArg (Value.int .u32) (and32 _ _)) ?_
      refine k_assign rfl rfl ?_
      refine k_nil ?_
      refine k_keep [(0, _), (1, _), (2, _), (3, _), (4, _), (9, _)] ⟨rfl, rfl, rfl, rfl, rfl, rfl, trivial⟩ ?_
      refine k_seq ?_
      refine k_region ?_
      refine k_move rfl rfl ?_
      refine k_shr (p := (x10.toNat : Int)) rfl rfl (by decide) rfl ?_
      refine k_as (congrArg (Value.int .u32) (shr32_eq _ _)) ?_
      refine k_assign rfl rfl ?_
      refine k_nil ?_
      refine k_keep [(0, _), (1, _), (2, _), (3, _), (4, _), (9, _)] ⟨rfl, rfl, rfl, rfl, rfl, rfl, trivial⟩ ?_
      refine k_region ?_
      refine k_move rfl rfl ?_
      refine k_move rfl rfl ?_
      refine k_mul rfl rfl rfl ?_
      refine k_as (congrArg (Value.int .u32) (w32 _)) ?_
      refine k_bits (p := ((shr32 x10 1).toNat : Int)) (q := ((ofI32 (2197175160 * ((x10 &&& (1 : UInt32)).toNat : Int))).toNat : Int)) (.inr (.inr (.inl ⟨rfl, rfl⟩))) rfl rfl rfl ?_
      refine k_as (congrArg (Value.int .u32) (xor32 _ _)) ?_
      refine k_assign rfl rfl ?_
      refine k_nil ?_
      refine k_blk ?_
      refine k_region ?_
      refine k_add rfl rfl rfl ?_
      refine k_move rfl rfl ?_
      refine k_nil ?_
      exact k_stop ⟨(s12, (shr32 x10 1) ^^^ (ofI32 (2197175160 * ((x10 &&& (1 : UInt32)).toNat : Int))), i64 (x11 + 1), j), ⟨(by first | rfl | (simp <;> rfl)), (by first | rfl | (simp <;> rfl)), trivial⟩, ⟨rfl, rfl, rfl, trivial⟩, ⟨rfl, hE11, h⟩, (by simp)⟩
     ·
      have h := itF h c13
      refine k_exit rfl ?_
      exact k_stop ⟨(s12, x10), ⟨(by first | rfl | (simp <;> rfl)), trivial⟩, ⟨rfl, rfl, rfl, trivial⟩, ⟨rfl, hE10, h⟩⟩
    ·
     rintro ⟨s14, x9⟩ wL ⟨rfl, hE10, h⟩
     rw [hK10] at h
     have szs14 := hE10.size
     have hS := hS.trans0 hE10
     have hE2 := hE2.trans0 hE10
     have hE4 := hE4.trans0 hE10
     have hE8 := hE8.trans0 hE10
     replace h1 := h1.up2 hE10
     refine k_region ?_
     refine k_move rfl rfl ?_
     refine k_move rfl rfl ?_
     obtain ⟨x12, hx12, h⟩ := ob h
     refine k_ixarr (m := 0) arr118 rfl rfl h5 hx12 rfl ?_
     refine k_store_el cU (fun _ => rfl) (v := x9) (pre := []) (xs := x4) size49 rfl rfl h1 (by first | (simp; done) | omega | (dsimp only; omega)) rfl hx12 ?_
     intro s15 st15 h1
     have hl15 : (x4.set (x3 : Int).toNat x9).length = 256 := by rw [List.length_set]; exact h5
     have szs15 := st15.size
     have hS := hS.c0 st15
     have hE2 := hE2.c0 st15
     have hE4 := hE4.c0 st15
     have hE8 := hE8.c0 st15
     refine k_nil ?_
     refine k_blk ?_
     exact k_stop ⟨(s15, (x4.set (x3 : Int).toNat x9)), trivial, ⟨rfl, rfl, trivial⟩, ⟨rfl, hE8, hl15, h1, h⟩⟩
   ·
    rintro ⟨s16, x7⟩ wL ⟨rfl, hE8, h9, h1, h⟩
    rw [hK8] at h
    have szs16 := hE8.size
    have hS := hS.c0 hE8
    have hE2 := hE2.c0 hE8
    have hE4 := hE4.c0 hE8
    refine k_region ?_
    refine k_add rfl rfl rfl ?_
    refine k_move rfl rfl ?_
    refine k_nil ?_
    rw [hkj5] at h
    exact k_stop ⟨(s16, i64 (x3 + 1), x7, j), ⟨(by first | rfl | (simp <;> rfl)), trivial⟩, ⟨rfl, trivial⟩, ⟨rfl, hE4, h9, h1, h⟩, (by simp)⟩
  ·
   have h := itF h c7
   refine k_exit rfl ?_
   exact k_stop ⟨(s6, x4), trivial, ⟨rfl, trivial⟩, ⟨rfl, hE2, h5, h1, h⟩⟩
 ·
  rintro ⟨s17, x2⟩ wL ⟨rfl, hE2, h3, h1, h⟩
  rw [hK2] at h
  have szs17 := hE2.size
  have hS := hS.c0 hE2
  refine k_seq ?_
  refine k_region ?_
  refine k_load_blka (cs := (([] : List Value) ++ x2.map cU)) (by simp only [List.length_append, List.length_map, h3]; exact agg118) rfl h1 rfl ?_
  refine k_store_all (cs' := (([] : List Value) ++ x2.map cU)) size118 rfl rfl h1 (by first | (simp; done) | omega | (dsimp only; omega)) (CellsOf.lit (vs := (([] : List Value) ++ x2.map cU)) rfl (ones.arrF (f := cU) _ (fun _ => rfl) rfl)) (by first | rfl | (simp only [List.length_append, List.length_map, List.length_replicate, h3, h3]; rfl)) (by first | rfl | (simp only [List.length_append, List.length_map, List.length_replicate, h3, h3]; rfl)) ?_
  intro s18 st18 h1
  have szs18 := st18.size
  have hS := hS.c0 st18
  refine k_nil ?_
  refine k_keep [(0, _)] ⟨rfl, trivial⟩ ?_
  refine k_ret ?_
  obtain rfl := Option.some.inj h
  refine ⟨[.agg (([] : List Value) ++ x2.map cU).toArray], ⟨res_blk (cs := (([] : List Value) ++ x2.map cU)) rfl (by simp only [List.length_append, List.length_map, h3]; exact agg118) h1, trivial⟩, Ret.mk hS ?_⟩
  exact ⟨rfl, h3⟩

set_option maxHeartbeats 1000000 in
set_option maxRecDepth 100000 in
theorem frame_Check_w {s : St} {l0 : Lab} {v0 : Value} {a0 : (List (List UInt8))} {r : UInt32} (hp0 : SL s l0 v0 1 (a0.map (dL 1 bD))) (h : frame_Check a0 = some r) : Calls Tryd.prog 57 #[v0] s.w (Ret s K0 (fun s1 v => v = .int .u32 (r.toNat : Int))) := by
 unfold frame_Check at h
 obtain ⟨lf0, lf0le, lf0ne, hp0⟩ := hp0.fix
 have hS := Step.r0 K0 s
 refine k_fn (rs := [2]) (args := [v0]) Tryd.func57 rfl rfl rfl rfl ?_
 refine k_seq ?_
 refine k_region ?_
 refine k_assign rfl rfl ?_
 refine k_nil ?_
 refine k_seq ?_
 refine k_region ?_
 obtain ⟨x1, hx1, h⟩ := ob h
 refine k_call cal65 rfl (frame_turns_w   hx1) rfl ?_
 rintro s1 vr1 st1 ⟨rfl, h1_0⟩
 have szs1 := st1.size
 have hS := hS.trans0 st1
 replace hp0 := hp0.up2 st1
 refine k_alloc zero118 rfl ?_
 intro s2 b2 st2 h2 ge2
 have szs2 := st2.size
 have hS := hS.trans0 st2
 replace hp0 := hp0.up2 st2
 have lt2 := h2.lt
 refine k_store_all (cs' := (([] : List Value) ++ x1.map cU)) size118 rfl rfl h2 (by first | (simp; done) | omega | (dsimp only; omega)) (CellsOf.lit (vs := (([] : List Value) ++ x1.map cU)) rfl (ones.arrF (f := cU) _ (fun _ => rfl) rfl)) (by first | rfl | (simp only [List.length_append, List.length_map, List.length_replicate, List.length_replicate, h1_0]; rfl)) (by first | rfl | (simp only [List.length_append, List.length_map, List.length_replicate, List.length_replicate, h1_0]; rfl)) ?_
 intro s3 st3 h2
 have szs3 := st3.size
 have hS := hS.c0 st3
 replace hp0 := hp0.up2 st3
 refine k_nil ?_
 refine k_keep [(0, _), (2, _), (3, _)] ⟨rfl, rfl, rfl, trivial⟩ ?_
 refine k_seq ?_
 refine k_region ?_
 refine k_assign rfl rfl ?_
 refine k_nil ?_
 refine k_seq ?_
 obtain ⟨kj2, hK4, h⟩ := jn_out h
 have hE4 := Step.r0 K0 s3
 refine k_cutc (X := St × UInt32) [(2, .int .u32 0)] (fun (xL : St × UInt32) => match xL with | (sl, x3) => [(4, .int .u32 (x3.toNat : Int))]) (fun (xL : St × UInt32) (wL : World) => match xL with | (sl, x3) => sl.w = wL ∧ Step K0 s3 sl ∧ kj2 x3 = some r) ?_ ?_
 ·
  refine k_seq ?_
  refine k_region ?_
  refine k_move rfl rfl ?_
  refine k_len Tryd.underlying32 rfl hp0.hasLen rfl ?_
  refine k_as (v := .int .i64 (a0.length : Int)) (by simp only [List.length_map]) ?_
  refine k_move rfl rfl ?_
  refine k_nil ?_
  refine k_keep [(2, _), (3, _), (4, _), (10, _), (11, _), (12, _)] ⟨rfl, rfl, rfl, rfl, rfl, rfl, trivial⟩ ?_
  refine k_block ?_
  refine k_loopc (X := St × UInt32 × Int × Nat) [(2, _), (3, _), (10, _), (11, _)] (fun (xL : St × UInt32 × Int × Nat) => match xL with | (sl, x4, x5, j) => [(4, .int .u32 (x4.toNat : Int)), (12, .int .i64 x5)]) (fun (xL : St × UInt32 × Int × Nat) (wL : World) => match xL with | (sl, x4, x5, j) => sl.w = wL ∧ Step K0 s3 sl ∧ frame_Check_l1 a0 x1 kj2 j x4 x5 = some r) (fun (xL : St × UInt32 × Int × Nat) => match xL with | (sl, x4, x5, j) => j) (s3, (4294967295 : UInt32), 0, FU) ⟨rfl, rfl, rfl, rfl, trivial⟩ ⟨(by first | rfl | (simp <;> rfl)), (by first | rfl | (simp <;> rfl)), trivial⟩ ⟨rfl, (Step.refl _).of0 (by first | exact fun _ h => h | (intro c h; simp [KC, KO, KU, KN, KB] at h <;> omega)), h⟩ ?_
  rintro ⟨s6, x4, x5, j⟩ wL ⟨rfl, hE5, h⟩
  cases j with
  | zero => rw [frame_Check_l1] at h; exact (noneNe h).elim
  | succ j =>
  rw [frame_Check_l1] at h
  have szs6 := hE5.size
  have hS := hS.trans0 hE5
  have hE4 := hE4.trans0 hE5
  replace hp0 := hp0.up2 hE5
  replace h2 := h2.up2 hE5
  obtain ⟨kj6, hkj6, h⟩ := jn_out h
  refine k_seq ?_
  refine k_region ?_
  refine k_lss rfl rfl rfl ?_
  refine k_nil ?_
  refine k_seq ?_
  refine k_cond_dec rfl (fun c7 => ?_) (fun c7 => ?_)
  ·
   have h := itT h c7
   refine k_skip ?_
   refine k_seq ?_
   refine k_keep [(2, _), (3, _), (4, _), (10, _), (11, _), (12, _)] ⟨rfl, rfl, rfl, rfl, rfl, rfl, trivial⟩ ?_
   obtain ⟨kj7, hK8, h⟩ := jn_out h
   have hE8 := Step.r0 K0 s6
   refine k_cutc (X := St × UInt32) [(2, .int .u32 0), (3, .pointer (some ⟨b2, 0, none⟩)), (10, v0), (11, .int .i64 (a0.length : Int)), (12, .int .i64 x5)] (fun (xL : St × UInt32) => match xL with | (sl, x8) => [(4, .int .u32 (x8.toNat : Int))]) (fun (xL : St × UInt32) (wL : World) => match xL with | (sl, x8) => sl.w = wL ∧ Step K0 s6 sl ∧ kj7 x8 = some r) ?_ ?_
   ·
    refine k_block ?_
    refine k_seq ?_
    refine k_region ?_
    obtain ⟨x9, hx9, h⟩ := ob h
    refine k_ixaddr Tryd.underlying32 size33 rfl rfl hp0 (geti_out hx9).1 (geti_map hx9) rfl ?_
    intro qx9 hqx9
    refine k_load_sl one33 rfl hqx9 rfl ?_
    intro v9 h9
    refine k_assign rfl rfl ?_
    refine k_nil ?_
    refine k_keep [(2, _), (3, _), (4, _), (6, _), (10, _), (11, _), (12, _)] ⟨rfl, rfl, rfl, rfl, rfl, rfl, rfl, trivial⟩ ?_
    refine k_seq ?_
    refine k_region ?_
    refine k_move rfl rfl ?_
    refine k_len Tryd.underlying33 rfl (SL.of_R h9).hasLen rfl ?_
    refine k_as (v := .int .i64 (x9.length : Int)) (by simp only [List.length_map]) ?_
    refine k_move rfl rfl ?_
    refine k_nil ?_
    refine k_keep [(2, _), (3, _), (4, _), (10, _), (11, _), (12, _), (16, _), (17, _), (18, _)] ⟨rfl, rfl, rfl, rfl, rfl, rfl, rfl, rfl, rfl, trivial⟩ ?_
    refine k_block ?_
    refine k_loopc (X := St × UInt32 × Int × Nat) [(2, _), (3, _), (10, _), (11, _), (12, _), (16, _), (17, _)] (fun (xL : St × UInt32 × Int × Nat) => match xL with | (sl, x10, x11, j) => [(4, .int .u32 (x10.toNat : Int)), (18, .int .i64 x11)]) (fun (xL : St × UInt32 × Int × Nat) (wL : World) => match xL with | (sl, x10, x11, j) => sl.w = wL ∧ Step K0 s6 sl ∧ frame_Check_l2 x9 x1 kj7 j x10 x11 = some r) (fun (xL : St × UInt32 × Int × Nat) => match xL with | (sl, x10, x11, j) => j) (s6, x4, 0, FU) ⟨rfl, rfl, rfl, rfl, rfl, rfl, rfl, trivial⟩ ⟨(by first | rfl | (simp <;> rfl)), (by first | rfl | (simp <;> rfl)), trivial⟩ ⟨rfl, (Step.refl _).of0 (by first | exact fun _ h => h | (intro c h; simp [KC, KO, KU, KN, KB] at h <;> omega)), h⟩ ?_
    rintro ⟨s11, x10, x11, j⟩ wL ⟨rfl, hE10, h⟩
    cases j with
    | zero => rw [frame_Check_l2] at h; exact (noneNe h).elim
    | succ j =>
    rw [frame_Check_l2] at h
    have szs11 := hE10.size
    have hS := hS.trans0 hE10
    have hE4 := hE4.trans0 hE10
    have hE5 := hE5.trans0 hE10
    have hE8 := hE8.trans0 hE10
    replace h9 := h9.up2 hE10
    replace h2 := h2.up2 hE10
    refine k_seq ?_
    refine k_region ?_
    refine k_lss rfl rfl rfl ?_
    refine k_nil ?_
    refine k_seq ?_
    refine k_cond_dec rfl (fun c12 => ?_) (fun c12 => ?_)
    ·
     have h := itT h c12
     refine k_skip ?_
     refine k_seq ?_
     refine k_block ?_
     refine k_seq ?_
     refine k_region ?_
     obtain ⟨x12, hx12, h⟩ := ob h
     refine k_ixaddr Tryd.underlying33 size5 rfl rfl (SL.of_R h9) (geti_out hx12).1 (geti_map hx12) rfl ?_
     intro qx12 hqx12
     refine k_load_val one5 rfl hqx12 rfl ?_
     refine k_assign rfl rfl ?_
     refine k_nil ?_
     refine k_keep [(2, _), (3, _), (4, _), (8, _), (10, _), (11, _), (12, _), (16, _), (17, _), (18, _)] ⟨rfl, rfl, rfl, rfl, rfl, rfl, rfl, rfl, rfl, rfl, trivial⟩ ?_
     refine k_region ?_
     refine k_move rfl rfl ?_
     refine k_conv (p := (x10.toNat : Int)) Tryd.underlying49 Tryd.underlying5 rfl rfl ?_
     refine k_as (congrArg (Value.int .u8) (w8 _)) ?_
     refine k_move rfl rfl ?_
     refine k_bits (p := ((ofI8 (x10.toNat : Int)).toNat : Int)) (q := (x12.toNat : Int)) (.inr (.inr (.inl ⟨rfl, rfl⟩))) rfl rfl rfl ?_
     refine k_as (congrArg (Value.int .u8) (xor8 _ _)) ?_
     obtain ⟨x13, hx13, h⟩ := ob h
     refine k_ixarr (m := 0) arr118 rfl rfl h1_0 hx13 rfl ?_
     refine k_load_el cU (pre := []) (xs := x1) one49 rfl h2 rfl hx13 rfl ?_
     refine k_move rfl rfl ?_
     refine k_shr (p := (x10.toNat : Int)) rfl rfl (by decide) rfl ?_
     refine k_as (congrArg (Value.int .u32) (shr32_eq _ _)) ?_
     refine k_bits (p := (x13.toNat : Int)) (q := ((shr32 x10 8).toNat : Int)) (.inr (.inr (.inl ⟨rfl, rfl⟩))) rfl rfl rfl ?_
     refine k_as (congrArg (Value.int .u32) (xor32 _ _)) ?_
     refine k_assign rfl rfl ?_
     refine k_nil ?_
     refine k_blk ?_
     refine k_region ?_
     refine k_add rfl rfl rfl ?_
     refine k_move rfl rfl ?_
     refine k_nil ?_
     exact k_stop ⟨(s11, x13 ^^^ (shr32 x10 8), i64 (x11 + 1), j), ⟨(by first | rfl | (simp <;> rfl)), (by first | rfl | (simp <;> rfl)), trivial⟩, ⟨rfl, rfl, rfl, rfl, rfl, rfl, rfl, trivial⟩, ⟨rfl, hE10, h⟩, (by simp)⟩
    ·
     have h := itF h c12
     refine k_exit rfl ?_
     refine k_blk ?_
     exact k_stop ⟨(s11, x10), ⟨(by first | rfl | (simp <;> rfl)), trivial⟩, ⟨rfl, rfl, rfl, rfl, rfl, trivial⟩, ⟨rfl, hE8, h⟩⟩
   ·
    rintro ⟨s13, x8⟩ wL ⟨rfl, hE8, h⟩
    rw [hK8] at h
    have szs13 := hE8.size
    have hS := hS.trans0 hE8
    have hE4 := hE4.trans0 hE8
    have hE5 := hE5.trans0 hE8
    refine k_region ?_
    refine k_add rfl rfl rfl ?_
    refine k_move rfl rfl ?_
    refine k_nil ?_
    rw [hkj6] at h
    exact k_stop ⟨(s13, x8, i64 (x5 + 1), j), ⟨(by first | rfl | (simp <;> rfl)), (by first | rfl | (simp <;> rfl)), trivial⟩, ⟨rfl, rfl, rfl, rfl, trivial⟩, ⟨rfl, hE5, h⟩, (by simp)⟩
  ·
   have h := itF h c7
   refine k_exit rfl ?_
   exact k_stop ⟨(s6, x4), ⟨(by first | rfl | (simp <;> rfl)), trivial⟩, ⟨rfl, trivial⟩, ⟨rfl, hE4, h⟩⟩
 ·
  rintro ⟨s14, x3⟩ wL ⟨rfl, hE4, h⟩
  rw [hK4] at h
  have szs14 := hE4.size
  have hS := hS.trans0 hE4
  refine k_seq ?_
  refine k_region ?_
  refine k_move rfl rfl ?_
  refine k_compl32 (a := x3) rfl rfl ?_
  refine k_assign rfl rfl ?_
  refine k_nil ?_
  refine k_keep [(2, _)] ⟨rfl, trivial⟩ ?_
  refine k_ret ?_
  obtain rfl := Option.some.inj h
  refine ⟨_, rfl, Ret.mk hS ?_⟩
  exact rfl

set_option maxHeartbeats 1000000 in
set_option maxRecDepth 100000 in
theorem frame_sum_w {s : St} {cs0 : List Value} {a0 : ApiTail} {v1 : Value} {a1 : (List UInt8)} {v2 : Value} {a2 : (List UInt8)} {r : UInt32} (hp0 : RC s cs0 (dApiTail a0)) (hp1 : R s v1 (.sl 1 (a1.map bD))) (hp2 : R s v2 (.sl 1 (a2.map bD))) (h : frame_sum a0 a1 a2 = some r) : Calls Tryd.prog 47 #[.agg cs0.toArray, v1, v2] s.w (Ret s K0 (fun s1 v => v = .int .u32 (r.toNat : Int))) := by
 unfold frame_sum at h
 obtain rfl := opnApiTail hp0
 have hS := Step.r0 K0 s
 refine k_fn (rs := [6]) (args := [.agg #[.int .i64 a0.Count, .int .i64 a0.Size, .int .u32 (a0.Sum.toNat : Int)], v1, v2]) Tryd.func47 rfl rfl rfl rfl ?_
 refine k_seq ?_
 refine k_region ?_
 refine k_box rfl rfl ?_
 intro s1 b1 st1 h1 ge1
 have szs1 := st1.size
 have hS := hS.trans0 st1
 replace hp1 := hp1.up2 st1
 replace hp2 := hp2.up2 st1
 have lt1 := h1.lt
 refine k_assign rfl rfl ?_
 refine k_nil ?_
 refine k_keep [(1, _), (2, _), (3, _), (6, _)] ⟨rfl, rfl, rfl, rfl, trivial⟩ ?_
 refine k_seq ?_
 refine k_region ?_
 refine k_field_addr fld51_2 rfl rfl ?_
 refine k_load_blk one49 rfl h1 rfl rfl ?_
 obtain ⟨x1, hx1, h⟩ := ob h
 refine k_call cal46 rfl (frame_word_own_w   hx1) rfl ?_
 rintro s2 v2_0 st2 ⟨_, l2_0, rfl, hl2_0, h2_0⟩
 have szs2 := st2.size
 have hS := hS.trans0 st2
 replace hp1 := hp1.up2 st2
 replace hp2 := hp2.up2 st2
 obtain ⟨l2_0, hl2_0, h2_0⟩ := Own.anew 2020 h2_0 hl2_0 szs2
 have lt2_0 := Own.le1 h2_0
 refine k_assign rfl rfl ?_
 refine k_nil ?_
 refine k_keep [(1, _), (2, _), (6, _), (7, _)] ⟨rfl, rfl, rfl, rfl, trivial⟩ ?_
 refine k_seq ?_
 refine k_region ?_
 refine k_move rfl rfl ?_
 by_cases c3 : x1 ≠ []
 case neg => exact (noneNe (itF h c3)).elim
 replace h := itT h c3
 have lq4 : l2_0.o ≤ s2.n := Own.le_ne h2_0 (fun e_ => c3 (List.map_eq_nil_iff.1 e_))
 obtain ⟨x2, hx2, h⟩ := ob h
 refine k_call cal56 rfl (slices_Reverse_byte_byte_w  h2_0 (by first | assumption | omega | (dsimp only; omega) | (simp <;> omega)) hx2) rfl ?_
 rintro s5 vr5 st5 ⟨rfl, h2_0⟩
 have szs5 := st5.size
 have hS := hS.c0 st5
 replace hp1 := hp1.up2 st5
 replace hp2 := hp2.up2 st5
 refine k_nil ?_
 refine k_keep [(1, _), (2, _), (6, _), (7, _)] ⟨rfl, rfl, rfl, rfl, trivial⟩ ?_
 refine k_seq ?_
 refine k_region ?_
 refine k_move rfl rfl ?_
 refine k_move rfl rfl ?_
 refine k_move rfl rfl ?_
 obtain ⟨s6, e6, st6, h6⟩ := h2_0.freeze
 rw [← e6]
 have szs6 := st6.size
 have hS := hS.c0 st6
 replace hp1 := hp1.up2 st6
 replace hp2 := hp2.up2 st6
 refine k_bslice2 (ds := ([x2, a1, a2] : List (List UInt8)).map (dL 1 bD)) slc32 rfl (RVs.cons h6 (RVs.cons hp1 (RVs.cons hp2 RVs.nil))) (by rfl) (by rfl) rfl rfl ?_
 intro s7 v7 b7 st7 ge7 bl7 h7
 have szs7 := st7.size
 have hS := hS.trans0 st7
 have lt7 := Own.le1 h7
 obtain ⟨x3, hx3, h⟩ := ob h
 refine k_call cal57 rfl (frame_Check_w  (h7.sl) hx3) rfl ?_
 rintro s8 vr8 st8 rfl
 have szs8 := st8.size
 have hS := hS.trans0 st8
 refine k_assign rfl rfl ?_
 refine k_nil ?_
 refine k_keep [(6, _)] ⟨rfl, trivial⟩ ?_
 refine k_ret ?_
 obtain rfl := Option.some.inj h
 refine ⟨_, rfl, Ret.mk hS ?_⟩
 exact rfl

set_option maxHeartbeats 1000000 in
set_option maxRecDepth 100000 in
theorem frame_Size_w {s : St} {l0 : Lab} {v0 : Value} {a0 : (List UInt8)} {r : Int} (hp0 : SL s l0 v0 1 (a0.map bD)) (h : frame_Size a0 = some r) : Calls Tryd.prog 59 #[v0] s.w (Ret s K0 (fun s1 v => v = .int .i64 r)) := by
 unfold frame_Size at h
 obtain ⟨lf0, lf0le, lf0ne, hp0⟩ := hp0.fix
 have hS := Step.r0 K0 s
 refine k_fn (rs := [2]) (args := [v0]) Tryd.func59 rfl rfl rfl rfl ?_
 refine k_seq ?_
 refine k_region ?_
 refine k_assign rfl rfl ?_
 refine k_nil ?_
 refine k_seq ?_
 refine k_region ?_
 refine k_move rfl rfl ?_
 refine k_len Tryd.underlying33 rfl hp0.hasLen rfl ?_
 refine k_as (v := .int .i64 (a0.length : Int)) (by simp only [List.length_map]) ?_
 refine k_add rfl rfl rfl ?_
 refine k_assign rfl rfl ?_
 refine k_nil ?_
 refine k_keep [(2, _)] ⟨rfl, trivial⟩ ?_
 refine k_ret ?_
 obtain rfl := Option.some.inj h
 refine ⟨_, rfl, Ret.mk hS ?_⟩
 exact rfl

set_option maxHeartbeats 1000000 in
set_option maxRecDepth 100000 in
theorem frame_behind_w {s : St} {cs0 : List Value} {a0 : ApiTail} {l1 : Lab} {v1 : Value} {a1 : (List UInt8)} {a2 : UInt32} {r : ApiTail} (hp0 : RC s cs0 (dApiTail a0)) (hp1 : SL s l1 v1 1 (a1.map bD)) (h : frame_behind a0 a1 a2 = some r) : Calls Tryd.prog 49 #[.agg cs0.toArray, v1, .int .u32 (a2.toNat : Int)] s.w (Ret s K0 (fun s1 v => ∃ (u0 : List Value), v = .agg u0.toArray ∧ RC s1 u0 (dApiTail r))) := by
 unfold frame_behind at h
 obtain rfl := opnApiTail hp0
 obtain ⟨lf1, lf1le, lf1ne, hp1⟩ := hp1.fix
 have hS := Step.r0 K0 s
 refine k_fn_c (rs := [.cell 6 51]) (args := [.agg #[.int .i64 a0.Count, .int .i64 a0.Size, .int .u32 (a0.Sum.toNat : Int)], v1, .int .u32 (a2.toNat : Int)]) Tryd.func49 rfl rfl rfl rfl ?_
 refine k_seq ?_
 refine k_region ?_
 refine k_box rfl rfl ?_
 intro s1 b1 st1 h1 ge1
 have szs1 := st1.size
 have hS := hS.trans0 st1
 replace hp1 := hp1.up2 st1
 have lt1 := h1.lt
 refine k_alloc zero51 rfl ?_
 intro s2 b2 st2 h2 ge2
 have szs2 := st2.size
 have hS := hS.trans0 st2
 replace hp1 := hp1.up2 st2
 replace h1 := h1.up2 st2
 have lt2 := h2.lt
 refine k_nil ?_
 refine k_keep [(1, _), (2, _), (3, _), (6, _)] ⟨rfl, rfl, rfl, rfl, trivial⟩ ?_
 refine k_seq ?_
 refine k_drawT (KN s2.n) 9 (.read 0 (.read 1 (.read 2 (.read 3 (.read 4 (.read 5 (.read 8 (.alt 6 (.read 7 .fin) .no)))))))) mixed (by intro c h; (try simp only [KC, KO, KU, KN, KB] at h) <;> omega) rfl rfl rfl ?_
 intro s3 st3
 have szs3 := st3.size
 have hS := hS.trans0 st3
 replace hp1 := hp1.up2 st3
 replace h1 := h1.up2 st3
 replace h2 := h2.up2 st3
 refine rt_read (.pointer (some ⟨b1, 0, none⟩)) rfl rfl (fun s4 st4 => ?_) ?_
 ·refine k_field_addr fld51_0 rfl rfl ?_
  exact fq_end
 refine rt_read (.int .i64 a0.Count) rfl rfl (fun s5 st5 => ?_) ?_
 ·try replace h1 := h1.up2 st5
  refine k_load_blk one3 rfl h1 rfl rfl ?_
  exact fq_end
 refine rt_read (.int .i64 (i64 (a0.Count + 1))) rfl rfl (fun s6 st6 => ?_) ?_
 ·refine k_add rfl rfl rfl ?_
  exact fq_end
 refine rt_read (.pointer (some ⟨b1, 1, none⟩)) rfl rfl (fun s7 st7 => ?_) ?_
 ·refine k_field_addr fld51_1 rfl rfl ?_
  exact fq_end
 refine rt_read (.int .i64 a0.Size) rfl rfl (fun s8 st8 => ?_) ?_
 ·try replace h1 := h1.up2 st8
  refine k_load_blk one3 rfl h1 rfl rfl ?_
  exact fq_end
 refine rt_read (v1) rfl rfl (fun s9 st9 => ?_) ?_
 ·refine k_move rfl rfl ?_
  exact fq_end
 refine rt_read (.int .u32 (a2.toNat : Int)) rfl rfl (fun s10 st10 => ?_) ?_
 ·refine k_move rfl rfl ?_
  exact fq_end
 refine rt_act rfl rfl ?_
 have hA11 := Step.r0 (KN s2.n) s3
 obtain ⟨x1, hx1, h⟩ := ob h
 refine k_call cal59 rfl (frame_Size_w  hp1 hx1) rfl ?_
 rintro s12 vr12 st12 rfl
 have szs12 := st12.size
 have hS := hS.trans0 st12
 have hA11 := hA11.trans0 st12
 replace h2 := h2.up2 st12
 refine rt_cont hA11 ?_
 refine rt_read (.int .i64 (i64 (a0.Size + x1))) rfl rfl (fun s13 st13 => ?_) ?_
 ·refine k_add rfl rfl rfl ?_
  exact fq_end
 refine rt_fin ?_
 refine k_build plc51 zero51 rfl (Parts.cons (CellsOf.lit rfl rfl).1 (Parts.cons (CellsOf.lit rfl rfl).1 (Parts.cons (CellsOf.lit rfl rfl).1 Parts.nil))) (by rfl) rfl ?_
 refine k_as (v := .agg #[.int .i64 (i64 (a0.Count + 1)), .int .i64 (i64 (a0.Size + x1)), .int .u32 (a2.toNat : Int)]) rfl ?_
 refine k_store_c (cs' := [.int .i64 (i64 (a0.Count + 1)), .int .i64 (i64 (a0.Size + x1)), .int .u32 (a2.toNat : Int)]) size51 rfl rfl h2 (by first | (simp; done) | omega | (dsimp only; omega)) (CellsOf.lit rfl rfl) rfl (by first | rfl | (simp; done) | (simp; omega)) rfl ?_
 intro s14 st14 h2
 have szs14 := st14.size
 have hS := hS.c0 st14
 refine k_nil ?_
 refine k_keep [(6, _)] ⟨rfl, trivial⟩ ?_
 refine k_ret ?_
 obtain rfl := Option.some.inj h
 refine ⟨[.agg [.int .i64 (i64 (a0.Count + 1)), .int .i64 (i64 (a0.Size + x1)), .int .u32 (a2.toNat : Int)].toArray], ⟨res_blk (cs := [.int .i64 (i64 (a0.Count + 1)), .int .i64 (i64 (a0.Size + x1)), .int .u32 (a2.toNat : Int)]) rfl agg51 h2, trivial⟩, Ret.mk hS ?_⟩
 exact ⟨_, rfl, (clsApiTail (⟨i64 (a0.Count + 1), i64 (a0.Size + x1), a2⟩ : ApiTail))⟩

set_option maxHeartbeats 1000000 in
set_option maxRecDepth 100000 in
theorem frame_records_1_w {s : St} {l : Nat} {XT : Type} {a0 : XT → ((List UInt8) × ApiTail) → Option (Bool × XT)} {I : XT → St → Prop} {Ky : Lab → Prop} {a50 : XT} {ub1 : Nat} {a1 : (List UInt8)} {r : XT} (hY : YielderW Tryd.prog s.n l (fun (sl : St) (y : (List UInt8) × ApiTail) (vs : List Value) => ∃ (u0 : Value), ∃ (u1 : List Value), vs = [u0, .agg u1.toArray] ∧ R sl u0 ((dL 1 bD) y.1) ∧ RC sl u1 (dApiTail y.2)) a0 I Ky (KC (ub1 + 1) 0)) (hI : I a50 s) (hp1 : BoxR s ub1 33 ((dL 1 bD) a1)) (hky1 : ¬ Ky ⟨ub1 + 1, 0⟩) (h : frame_records_1 a0 a50 a1 = some r) : Calls Tryd.prog 53 #[.func (.yield l) #[] #[], .pointer (some ⟨ub1, 0, none⟩)] s.w (Ret s (KU (KB s.n Ky) (KC (ub1 + 1) 0)) (fun s1 v => v = .tuple #[] ∧ I r s1)) := by
 unfold frame_records_1 at h
 replace hI := ConsW.of hY hI (Nat.le_refl _)
 obtain ⟨cs1, hb_b1, hp1⟩ := hp1
 obtain ⟨w1, rfl, hp1⟩ := hp1.sl_inv
 replace hp1 : R s w1 ((dL 1 bD) a1) := hp1
 have lt1 := hb_b1.lt
 have hS := Step.r0 (KU (KB s.n Ky) (KC (ub1 + 1) 0)) s
 refine k_fn (rs := []) (args := [.func (.yield l) #[] #[], .pointer (some ⟨ub1, 0, none⟩)]) Tryd.func53 rfl rfl rfl rfl ?_
 refine k_seq ?_
 refine k_region ?_
 refine k_alloc zero51 rfl ?_
 intro s2 b2 st2 h2 ge2
 have szs2 := st2.size
 have hS := hS.trans0 st2
 replace hI := hI.up2 st2
 replace hp1 := hp1.up2 st2
 replace hb_b1 := hb_b1.up2 st2
 have lt2 := h2.lt
 refine k_nil ?_
 refine k_block ?_
 refine k_loopc (X := St × XT × (List UInt8) × Value × Int × Int × UInt32 × Nat) [(0, _), (1, _), (3, _)] (fun (xL : St × XT × (List UInt8) × Value × Int × Int × UInt32 × Nat) => match xL with | (sl, x1, x2, v4, x3, x4, x5, j) => []) (fun (xL : St × XT × (List UInt8) × Value × Int × Int × UInt32 × Nat) (wL : World) => match xL with | (sl, x1, x2, v4, x3, x4, x5, j) => sl.w = wL ∧ Step (KU (KC (b2 + 1) 0) (KU (KB s.n Ky) (KC (ub1 + 1) 0))) s2 sl ∧ (ConsW I s.n (KC (ub1 + 1) 0) sl x1) ∧ (R sl v4 (.sl 1 (x2.map bD))) ∧ (Blk sl ub1 ⟨ub1 + 1, 0⟩ [v4] 33) ∧ (Blk sl b2 ⟨b2 + 1, 0⟩ [.int .i64 x3, .int .i64 x4, .int .u32 (x5.toNat : Int)] 51) ∧ frame_records_1_l1 a0 j x1 x2 x3 x4 x5 = some r) (fun (xL : St × XT × (List UInt8) × Value × Int × Int × UInt32 × Nat) => match xL with | (sl, x1, x2, v4, x3, x4, x5, j) => j) (s2, a50, a1, w1, 0, 0, (0 : UInt32), FU) ⟨rfl, rfl, rfl, trivial⟩ trivial ⟨rfl, (Step.refl _).of0 (by first | exact fun _ h => h | (intro c h; simp [KC, KO, KU, KN, KB] at h <;> omega)), hI, hp1, hb_b1, h2, h⟩ ?_
 rintro ⟨s5, x1, x2, v4, x3, x4, x5, j⟩ wL ⟨rfl, hE3, hI, h4, hb_b1, h2, h⟩
 cases j with
 | zero => rw [frame_records_1_l1] at h; exact (noneNe h).elim
 | succ j =>
 rw [frame_records_1_l1] at h
 have szs5 := hE3.size
 have hS : Step (KU (KB s.n Ky) (KC (ub1 + 1) 0)) s s5 := hS.comp hE3 (by intro l hl hk; (try simp only [KC, KO, KU, KN, K0, KB] at hk ⊢); (repeat' (refine Or.elim hk (fun hk => ?_) (fun hk => ?_))) <;> first | exact hk | exact .inl hk | exact .inr hk | exact .inr (.inl hk) | exact .inr (.inr hk) | omega)
 refine k_seq ?_
 refine k_seq ?_
 refine k_region ?_
 refine k_load_blk one33 rfl hb_b1 rfl rfl ?_
 refine k_len Tryd.underlying33 rfl (SL.of_R h4).hasLen rfl ?_
 refine k_as (v := .int .i64 (x2.length : Int)) (by simp only [List.length_map]) ?_
 refine k_geq rfl rfl rfl ?_
 refine k_nil ?_
 refine k_keep [(0, _), (1, _), (3, _), (9, _)] ⟨rfl, rfl, rfl, rfl, trivial⟩ ?_
 refine k_cond_dec rfl (fun c6 => ?_) (fun c6 => ?_)
 ·
  have h := itT h c6
  refine k_skip ?_
  refine k_block ?_
  refine k_seq ?_
  refine k_region ?_
  refine k_load_blk one33 rfl hb_b1 rfl rfl ?_
  obtain ⟨x6, hx6, h⟩ := ob h
  refine k_call cal54 rfl (frame_number_w  (SL.of_R h4) hx6) rfl ?_
  rintro s7 vr7 st7 rfl
  have szs7 := st7.size
  have hS := hS.trans0 st7
  have hE3 := hE3.trans0 st7
  replace h4 := h4.up2 st7
  replace hI := hI.up2 st7
  replace hb_b1 := hb_b1.up2 st7
  replace h2 := h2.up2 st7
  refine k_assign rfl rfl ?_
  refine k_nil ?_
  refine k_keep [(0, _), (1, _), (3, _), (4, _)] ⟨rfl, rfl, rfl, rfl, trivial⟩ ?_
  refine k_seq ?_
  refine k_seq ?_
  refine k_region ?_
  refine k_move rfl rfl ?_
  refine k_gtr rfl rfl rfl ?_
  refine k_move rfl rfl ?_
  have hE8 := Step.r0 K0 s7
  refine k_cutl (X := St) 7 [(0, .func (.yield l) #[] #[]), (1, .pointer (some ⟨ub1, 0, none⟩)), (3, .pointer (some ⟨b2, 0, none⟩)), (4, .int .u32 (x6.toNat : Int)), (12, .int .u32 (x6.toNat : Int)), (13, .bool (decide (16384 < (x6.toNat : Int))))] (fun _ => [(21, .bool (decide ((16384 < (x6.toNat : Int)) ∨ (i64 ((x2.length : Int) - 8) < (x6.toNat : Int)))))]) (fun sl wL => sl.w = wL ∧ Step K0 s7 sl) ?_ ?_
  ·
   refine k_again 14 rfl ?_
   refine k_split (fun c9 => ?_) (fun c9 => ?_)
   ·
    refine k_no rfl rfl rfl rfl ?_
    refine k_no rfl rfl rfl rfl ?_
    refine k_no rfl rfl rfl rfl ?_
    refine k_no rfl rfl rfl rfl ?_
    refine k_no rfl rfl rfl rfl ?_
    refine k_no rfl rfl rfl rfl ?_
    refine k_pickT rfl rfl rfl rfl ?_
    exact k_met ⟨s7, ⟨(congrArg (fun b => some (Value.bool b)) (by first | exact decide_eq_decide.2 ⟨Or.inr, fun h => h.resolve_left c9⟩ | exact (decide_eq_true (Or.inl c9)).symm | (simp [c9]; done) | exact dec_andT c9 | exact dec_andF c9 | exact dec_orF c9 | exact dec_orT c9 | (simp [c9, i64] <;> omega))), trivial⟩, ⟨rfl, rfl, rfl, rfl, rfl, rfl, trivial⟩, rfl, hE8⟩
   ·
    refine k_yes rfl rfl ?_
    refine k_move rfl rfl ?_
    refine k_yes rfl rfl ?_
    refine k_conv (p := (x6.toNat : Int)) Tryd.underlying49 Tryd.underlying3 rfl rfl ?_
    refine k_as (congrArg (Value.int .i64) (i64_b32 _)) ?_
    refine k_yes rfl rfl ?_
    refine k_load_blk one33 rfl hb_b1 rfl rfl ?_
    refine k_yes rfl rfl ?_
    refine k_len Tryd.underlying33 rfl (SL.of_R h4).hasLen rfl ?_
    refine k_as (v := .int .i64 (x2.length : Int)) (by simp only [List.length_map]) ?_
    refine k_yes rfl rfl ?_
    refine k_sub_ rfl rfl rfl ?_
    refine k_yes rfl rfl ?_
    refine k_gtr rfl rfl rfl ?_
    refine k_pickF rfl rfl rfl rfl ?_
    exact k_met ⟨s7, ⟨(congrArg (fun b => some (Value.bool b)) (by first | exact decide_eq_decide.2 ⟨Or.inr, fun h => h.resolve_left c9⟩ | exact (decide_eq_true (Or.inl c9)).symm | (simp [c9]; done) | exact dec_andT c9 | exact dec_andF c9 | exact dec_orF c9 | exact dec_orT c9 | (simp [c9, i64] <;> omega))), trivial⟩, ⟨rfl, rfl, rfl, rfl, rfl, rfl, trivial⟩, rfl, hE8⟩
  ·
   rintro s10 wL ⟨rfl, hE8⟩
   have szs10 := hE8.size
   have hS := hS.trans0 hE8
   have hE3 := hE3.trans0 hE8
   replace hI := hI.up2 hE8
   replace h4 := h4.up2 hE8
   replace hb_b1 := hb_b1.up2 hE8
   replace h2 := h2.up2 hE8
   refine k_nil ?_
   refine k_keep [(0, _), (1, _), (3, _), (4, _), (21, _)] ⟨rfl, rfl, rfl, rfl, rfl, trivial⟩ ?_
   refine k_cond_dec rfl (fun c11 => ?_) (fun c11 => ?_)
   ·
    have h := itT h c11
    refine k_ret ?_
    obtain rfl := Option.some.inj h
    refine ⟨_, rfl, Ret.mk hS ?_⟩
    exact ⟨rfl, hI.1⟩
   ·
    have h := itF h c11
    refine k_skip ?_
    refine k_seq ?_
    refine k_region ?_
    refine k_move rfl rfl ?_
    refine k_conv (p := (x6.toNat : Int)) Tryd.underlying49 Tryd.underlying3 rfl rfl ?_
    refine k_as (congrArg (Value.int .i64) (i64_b32 _)) ?_
    refine k_add rfl rfl rfl ?_
    refine k_assign rfl rfl ?_
    refine k_nil ?_
    refine k_keep [(0, _), (1, _), (3, _), (5, _)] ⟨rfl, rfl, rfl, rfl, trivial⟩ ?_
    refine k_seq ?_
    refine k_region ?_
    refine k_load_blk one33 rfl hb_b1 rfl rfl ?_
    refine k_move rfl rfl ?_
    refine k_move rfl rfl ?_
    obtain ⟨x7, hx7, h⟩ := ob h
    refine k_cut3_sl (i := (8 : Int).toNat) (j := (i64 (8 + (x6.toNat : Int)) : Int).toNat) Tryd.underlying33 size5 rfl (SL.of_R h4) (CutAt.int rfl (subl_out hx7).1) (CutAt.int rfl (Int.le_trans (subl_out hx7).1 (subl_out hx7).2.1)) (CutAt.int rfl (Int.le_trans (subl_out hx7).1 (subl_out hx7).2.1)) (subl_ij hx7) (by rw [List.length_map]; exact subl_j hx7) rfl ?_
    intro vx7 hcx7
    rw [← List.map_drop, ← List.map_take, ← (subl_out hx7).2.2.2] at hcx7
    have hcx7 := R.of_SL hcx7
    refine k_assign rfl rfl ?_
    refine k_nil ?_
    refine k_keep [(0, _), (1, _), (3, _), (5, _), (6, _)] ⟨rfl, rfl, rfl, rfl, rfl, trivial⟩ ?_
    refine k_seq ?_
    obtain ⟨kj8, hK12, h⟩ := jn_out h
    have hE12 := Step.r0 K0 s10
    refine k_cutc (X := St) [(0, .func (.yield l) #[] #[]), (1, .pointer (some ⟨ub1, 0, none⟩)), (3, .pointer (some ⟨b2, 0, none⟩)), (5, .int .i64 (i64 (8 + (x6.toNat : Int)))), (6, vx7)] (fun (xL : St) => match xL with | sl => []) (fun (xL : St) (wL : World) => match xL with | sl => sl.w = wL ∧ Step K0 s10 sl ∧ kj8 () = some r) ?_ ?_
    ·
     refine k_seq ?_
     obtain ⟨x9, hx9, h⟩ := ob h
     obtain ⟨x10, hx10, h⟩ := ob h
     obtain ⟨x11, hx11, h⟩ := ob h
     refine k_drawT (KN s10.n) 7 (.read 0 (.read 1 (.read 3 (.read 5 (.alt 2 (.alt 4 (.alt 6 .fin .no) (.alt 6 (.alt 4 .fin .no) .no)) (.alt 6 (.alt 2 (.alt 4 .fin .no) .no) .no)))))) mixed (by intro c h; (try simp only [KC, KO, KU, KN, KB] at h) <;> omega) rfl rfl rfl ?_
     intro s13 st13
     have szs13 := st13.size
     have hS := hS.trans0 st13
     have hE3 := hE3.trans0 st13
     have hE12 := hE12.trans0 st13
     replace hcx7 := hcx7.up2 st13
     replace hI := hI.up2 st13
     replace h4 := h4.up2 st13
     replace hb_b1 := hb_b1.up2 st13
     replace h2 := h2.up2 st13
     refine rt_read (.agg #[.int .i64 x3, .int .i64 x4, .int .u32 (x5.toNat : Int)]) rfl rfl (fun s14 st14 => ?_) ?_
     ·try replace h2 := h2.up2 st14
      refine k_load_blka (cs := [.int .i64 x3, .int .i64 x4, .int .u32 (x5.toNat : Int)]) agg51 rfl h2 rfl ?_
      exact fq_end
     refine rt_read (v4) rfl rfl (fun s15 st15 => ?_) ?_
     ·try replace hb_b1 := hb_b1.up2 st15
      refine k_load_blk one33 rfl hb_b1 rfl rfl ?_
      exact fq_end
     refine rt_read (vx7) rfl rfl (fun s16 st16 => ?_) ?_
     ·refine k_move rfl rfl ?_
      exact fq_end
     refine rt_read (v4) rfl rfl (fun s17 st17 => ?_) ?_
     ·try replace hb_b1 := hb_b1.up2 st17
      refine k_load_blk one33 rfl hb_b1 rfl rfl ?_
      exact fq_end
     refine rt_alt rfl rfl ?_ ?_
     ·
      have hA18 := Step.r0 (KN s10.n) s13
      refine k_cut_sl (i := (0 : Int).toNat) (j := (4 : Int).toNat) Tryd.underlying33 size5 rfl (SL.of_R h4) CutAt.none (CutAt.int rfl (Int.le_trans (subl_out hx9).1 (subl_out hx9).2.1)) (subl_ij hx9) (by rw [List.length_map]; exact subl_j hx9) rfl ?_
      intro vx9 hcx9
      rw [← List.map_drop, ← List.map_take, ← (subl_out hx9).2.2.2] at hcx9
      have hcx9 := R.of_SL hcx9
      refine rt_cont hA18 ?_
      refine rt_alt rfl rfl ?_ ?_
      ·
       have hA19 := Step.r0 (KN s10.n) s13
       refine k_call cal47 rfl (frame_sum_w  (clsApiTail (⟨x3, x4, x5⟩ : ApiTail)) (show R s13 vx9 (.sl 1 (x9.map bD)) from hcx9) (show R s13 vx7 (.sl 1 (x7.map bD)) from hcx7) hx10) rfl ?_
       rintro s20 vr20 st20 rfl
       have szs20 := st20.size
       have hS := hS.trans0 st20
       have hE3 := hE3.trans0 st20
       have hE12 := hE12.trans0 st20
       have hA19 := hA19.trans0 st20
       replace h4 := h4.up2 st20
       replace hI := hI.up2 st20
       refine rt_cont hA19 ?_
       refine rt_act rfl rfl ?_
       have hA21 := Step.r0 (KN s10.n) s20
       refine k_cut_sl (i := (4 : Int).toNat) (j := ((x2.length : Int) : Int).toNat) Tryd.underlying33 size5 rfl (SL.of_R h4) (CutAt.int rfl (subl_out hx11).1) (CutAt.len (by rw [List.length_map]; rfl)) (subl_ij hx11) (by rw [List.length_map]; exact subl_j hx11) rfl ?_
       intro vx11 hcx11
       rw [← List.map_drop, ← List.map_take, ← (subl_out hx11).2.2.2] at hcx11
       have hcx11 := R.of_SL hcx11
       refine rt_cont hA21 ?_
       refine rt_fin ?_
       obtain ⟨x12, hx12, h⟩ := ob h
       refine k_call cal54 rfl (frame_number_w  (SL.of_R hcx11) hx12) rfl ?_
       rintro s22 vr22 st22 rfl
       have szs22 := st22.size
       have hS := hS.trans0 st22
       have hE3 := hE3.trans0 st22
       have hE12 := hE12.trans0 st22
       replace hI := hI.up2 st22
       refine k_neq rfl rfl rfl ?_
       refine k_nil ?_
       refine k_keep [(0, _), (1, _), (3, _), (5, _), (6, _), (37, _)] ⟨rfl, rfl, rfl, rfl, rfl, rfl, trivial⟩ ?_
       refine k_cond_dec rfl (fun c23 => ?_) (fun c23 => ?_)
       ·
        have h := itT h c23
        refine k_ret ?_
        obtain rfl := Option.some.inj h
        refine ⟨_, rfl, Ret.mk hS ?_⟩
        exact ⟨rfl, hI.1⟩
       ·
        have h := itF h c23
        refine k_skip ?_
        exact k_stop ⟨s22, trivial, ⟨rfl, rfl, rfl, rfl, rfl, trivial⟩, ⟨rfl, hE12, h⟩⟩
      ·
       refine rt_act rfl rfl ?_
       have hA24 := Step.r0 (KN s10.n) s13
       refine k_cut_sl (i := (4 : Int).toNat) (j := ((x2.length : Int) : Int).toNat) Tryd.underlying33 size5 rfl (SL.of_R h4) (CutAt.int rfl (subl_out hx11).1) (CutAt.len (by rw [List.length_map]; rfl)) (subl_ij hx11) (by rw [List.length_map]; exact subl_j hx11) rfl ?_
       intro vx11 hcx11
       rw [← List.map_drop, ← List.map_take, ← (subl_out hx11).2.2.2] at hcx11
       have hcx11 := R.of_SL hcx11
       refine rt_cont hA24 ?_
       refine rt_act rfl rfl ?_
       have hA25 := Step.r0 (KN s10.n) s13
       refine k_call cal47 rfl (frame_sum_w  (clsApiTail (⟨x3, x4, x5⟩ : ApiTail)) (show R s13 vx9 (.sl 1 (x9.map bD)) from hcx9) (show R s13 vx7 (.sl 1 (x7.map bD)) from hcx7) hx10) rfl ?_
       rintro s26 vr26 st26 rfl
       have szs26 := st26.size
       have hS := hS.trans0 st26
       have hE3 := hE3.trans0 st26
       have hE12 := hE12.trans0 st26
       have hA25 := hA25.trans0 st26
       replace hcx11 := hcx11.up2 st26
       replace hI := hI.up2 st26
       refine rt_cont hA25 ?_
       refine rt_fin ?_
       obtain ⟨x13, hx13, h⟩ := ob h
       refine k_call cal54 rfl (frame_number_w  (SL.of_R hcx11) hx13) rfl ?_
       rintro s27 vr27 st27 rfl
       have szs27 := st27.size
       have hS := hS.trans0 st27
       have hE3 := hE3.trans0 st27
       have hE12 := hE12.trans0 st27
       replace hI := hI.up2 st27
       refine k_neq rfl rfl rfl ?_
       refine k_nil ?_
       refine k_keep [(0, _), (1, _), (3, _), (5, _), (6, _), (37, _)] ⟨rfl, rfl, rfl, rfl, rfl, rfl, trivial⟩ ?_
       refine k_cond_dec rfl (fun c28 => ?_) (fun c28 => ?_)
       ·
        have h := itT h c28
        refine k_ret ?_
        obtain rfl := Option.some.inj h
        refine ⟨_, rfl, Ret.mk hS ?_⟩
        exact ⟨rfl, hI.1⟩
       ·
        have h := itF h c28
        refine k_skip ?_
        exact k_stop ⟨s27, trivial, ⟨rfl, rfl, rfl, rfl, rfl, trivial⟩, ⟨rfl, hE12, h⟩⟩
     ·
      refine rt_act rfl rfl ?_
      have hA29 := Step.r0 (KN s10.n) s13
      refine k_cut_sl (i := (4 : Int).toNat) (j := ((x2.length : Int) : Int).toNat) Tryd.underlying33 size5 rfl (SL.of_R h4) (CutAt.int rfl (subl_out hx11).1) (CutAt.len (by rw [List.length_map]; rfl)) (subl_ij hx11) (by rw [List.length_map]; exact subl_j hx11) rfl ?_
      intro vx11 hcx11
      rw [← List.map_drop, ← List.map_take, ← (subl_out hx11).2.2.2] at hcx11
      have hcx11 := R.of_SL hcx11
      refine rt_cont hA29 ?_
      refine rt_act rfl rfl ?_
      have hA30 := Step.r0 (KN s10.n) s13
      refine k_cut_sl (i := (0 : Int).toNat) (j := (4 : Int).toNat) Tryd.underlying33 size5 rfl (SL.of_R h4) CutAt.none (CutAt.int rfl (Int.le_trans (subl_out hx9).1 (subl_out hx9).2.1)) (subl_ij hx9) (by rw [List.length_map]; exact subl_j hx9) rfl ?_
      intro vx9 hcx9
      rw [← List.map_drop, ← List.map_take, ← (subl_out hx9).2.2.2] at hcx9
      have hcx9 := R.of_SL hcx9
      refine rt_cont hA30 ?_
      refine rt_act rfl rfl ?_
      have hA31 := Step.r0 (KN s10.n) s13
      refine k_call cal47 rfl (frame_sum_w  (clsApiTail (⟨x3, x4, x5⟩ : ApiTail)) (show R s13 vx9 (.sl 1 (x9.map bD)) from hcx9) (show R s13 vx7 (.sl 1 (x7.map bD)) from hcx7) hx10) rfl ?_
      rintro s32 vr32 st32 rfl
      have szs32 := st32.size
      have hS := hS.trans0 st32
      have hE3 := hE3.trans0 st32
      have hE12 := hE12.trans0 st32
      have hA31 := hA31.trans0 st32
      replace hcx11 := hcx11.up2 st32
      replace hI := hI.up2 st32
      refine rt_cont hA31 ?_
      refine rt_fin ?_
      obtain ⟨x14, hx14, h⟩ := ob h
      refine k_call cal54 rfl (frame_number_w  (SL.of_R hcx11) hx14) rfl ?_
      rintro s33 vr33 st33 rfl
      have szs33 := st33.size
      have hS := hS.trans0 st33
      have hE3 := hE3.trans0 st33
      have hE12 := hE12.trans0 st33
      replace hI := hI.up2 st33
      refine k_neq rfl rfl rfl ?_
      refine k_nil ?_
      refine k_keep [(0, _), (1, _), (3, _), (5, _), (6, _), (37, _)] ⟨rfl, rfl, rfl, rfl, rfl, rfl, trivial⟩ ?_
      refine k_cond_dec rfl (fun c34 => ?_) (fun c34 => ?_)
      ·
       have h := itT h c34
       refine k_ret ?_
       obtain rfl := Option.some.inj h
       refine ⟨_, rfl, Ret.mk hS ?_⟩
       exact ⟨rfl, hI.1⟩
      ·
       have h := itF h c34
       refine k_skip ?_
       exact k_stop ⟨s33, trivial, ⟨rfl, rfl, rfl, rfl, rfl, trivial⟩, ⟨rfl, hE12, h⟩⟩
    ·
     rintro s35 wL ⟨rfl, hE12, h⟩
     rw [hK12] at h
     have szs35 := hE12.size
     have hS := hS.trans0 hE12
     have hE3 := hE3.trans0 hE12
     replace hcx7 := hcx7.up2 hE12
     replace hI := hI.up2 hE12
     replace h4 := h4.up2 hE12
     replace hb_b1 := hb_b1.up2 hE12
     replace h2 := h2.up2 hE12
     refine k_seq ?_
     refine k_drawT (KN s35.n) 5 (.read 0 (.read 1 (.read 2 (.alt 3 (.alt 4 .fin .no) .no)))) mixed (by intro c h; (try simp only [KC, KO, KU, KN, KB] at h) <;> omega) rfl rfl rfl ?_
     intro s36 st36
     have szs36 := st36.size
     have hS := hS.trans0 st36
     have hE3 := hE3.trans0 st36
     replace hcx7 := hcx7.up2 st36
     replace hI := hI.up2 st36
     replace h4 := h4.up2 st36
     replace hb_b1 := hb_b1.up2 st36
     replace h2 := h2.up2 st36
     refine rt_read (.agg #[.int .i64 x3, .int .i64 x4, .int .u32 (x5.toNat : Int)]) rfl rfl (fun s37 st37 => ?_) ?_
     ·try replace h2 := h2.up2 st37
      refine k_load_blka (cs := [.int .i64 x3, .int .i64 x4, .int .u32 (x5.toNat : Int)]) agg51 rfl h2 rfl ?_
      exact fq_end
     refine rt_read (vx7) rfl rfl (fun s38 st38 => ?_) ?_
     ·refine k_move rfl rfl ?_
      exact fq_end
     refine rt_read (v4) rfl rfl (fun s39 st39 => ?_) ?_
     ·try replace hb_b1 := hb_b1.up2 st39
      refine k_load_blk one33 rfl hb_b1 rfl rfl ?_
      exact fq_end
     refine rt_act rfl rfl ?_
     have hA40 := Step.r0 (KN s35.n) s36
     obtain ⟨x15, hx15, h⟩ := ob h
     refine k_cut_sl (i := (4 : Int).toNat) (j := ((x2.length : Int) : Int).toNat) Tryd.underlying33 size5 rfl (SL.of_R h4) (CutAt.int rfl (subl_out hx15).1) (CutAt.len (by rw [List.length_map]; rfl)) (subl_ij hx15) (by rw [List.length_map]; exact subl_j hx15) rfl ?_
     intro vx15 hcx15
     rw [← List.map_drop, ← List.map_take, ← (subl_out hx15).2.2.2] at hcx15
     have hcx15 := R.of_SL hcx15
     refine rt_cont hA40 ?_
     refine rt_act rfl rfl ?_
     have hA41 := Step.r0 (KN s35.n) s36
     obtain ⟨x16, hx16, h⟩ := ob h
     refine k_call cal54 rfl (frame_number_w  (SL.of_R hcx15) hx16) rfl ?_
     rintro s42 vr42 st42 rfl
     have szs42 := st42.size
     have hS := hS.trans0 st42
     have hE3 := hE3.trans0 st42
     have hA41 := hA41.trans0 st42
     replace hcx7 := hcx7.up2 st42
     replace h4 := h4.up2 st42
     replace hI := hI.up2 st42
     replace hb_b1 := hb_b1.up2 st42
     replace h2 := h2.up2 st42
     refine rt_cont hA41 ?_
     refine rt_fin ?_
     obtain ⟨x17, hx17, h⟩ := ob h
     refine k_call cal49 rfl (frame_behind_w  (clsApiTail (⟨x3, x4, x5⟩ : ApiTail)) (SL.of_R hcx7) hx17) rfl ?_
     rintro s43 vr43 st43 ⟨cs43_0, rfl, h43_0⟩
     have szs43 := st43.size
     have hS := hS.trans0 st43
     have hE3 := hE3.trans0 st43
     replace hcx7 := hcx7.up2 st43
     replace h4 := h4.up2 st43
     replace hI := hI.up2 st43
     replace hb_b1 := hb_b1.up2 st43
     replace h2 := h2.up2 st43
     obtain rfl := opnApiTail h43_0
     refine k_store_c (cs' := [.int .i64 x17.Count, .int .i64 x17.Size, .int .u32 (x17.Sum.toNat : Int)]) size51 rfl rfl h2 (by first | (simp; done) | omega | (dsimp only; omega)) (CellsOf.lit rfl rfl) rfl (by first | rfl | (simp; done) | (simp; omega)) rfl ?_
     intro s44 st44 h2
     have szs44 := st44.size
     have hS : Step (KU (KB s.n Ky) (KC (ub1 + 1) 0)) s s44 := hS.comp st44 (by intro l hl hk; (try simp only [KC, KO, KU, KN, K0, KB] at hk ⊢); (repeat' (refine Or.elim hk (fun hk => ?_) (fun hk => ?_))) <;> first | exact hk | exact .inl hk | exact .inr hk | exact .inr (.inl hk) | exact .inr (.inr hk) | omega)
     have hE3 : Step (KU (KC (b2 + 1) 0) (KU (KB s.n Ky) (KC (ub1 + 1) 0))) s2 s44 := hE3.comp st44 (by intro l hl hk; (try simp only [KC, KO, KU, KN, K0, KB] at hk ⊢); (repeat' (refine Or.elim hk (fun hk => ?_) (fun hk => ?_))) <;> first | exact hk | exact .inl hk | exact .inr hk | exact .inr (.inl hk) | exact .inr (.inr hk) | omega)
     replace hcx7 := hcx7.up2 st44
     replace h4 := h4.up2 st44
     replace hI := hI.up2 st44
     replace hb_b1 := hb_b1.up2 st44
     refine k_nil ?_
     refine k_keep [(0, _), (1, _), (3, _), (5, _), (6, _)] ⟨rfl, rfl, rfl, rfl, rfl, trivial⟩ ?_
     refine k_seq ?_
     refine k_seq ?_
     refine k_region ?_
     refine k_move rfl rfl ?_
     refine k_move rfl rfl ?_
     refine k_load_blka (cs := [.int .i64 x17.Count, .int .i64 x17.Size, .int .u32 (x17.Sum.toNat : Int)]) agg51 rfl h2 rfl ?_
     obtain ⟨x18, hx18, h⟩ := ob h
     refine k_yield rfl rfl (hY.yield _ _ _ _ _ hI.2.1 hI.1 ⟨_, _, rfl, hcx7, (clsApiTail x17)⟩ hx18) rfl ?_
     rintro s45 _ st45 ⟨rfl, hI⟩
     replace hI := ConsW.of hY hI (Nat.le_trans (by omega) st45.size)
     have szs45 := st45.size
     have hS : Step (KU (KB s.n Ky) (KC (ub1 + 1) 0)) s s45 := hS.comp st45 (by intro l hl hk; (try simp only [KC, KO, KU, KN, K0, KB] at hk ⊢); (repeat' (refine Or.elim hk (fun hk => ?_) (fun hk => ?_))) <;> first | exact hk | exact .inl hk | exact .inr hk | exact .inr (.inl hk) | exact .inr (.inr hk) | omega)
     have hE3 : Step (KU (KC (b2 + 1) 0) (KU (KB s.n Ky) (KC (ub1 + 1) 0))) s2 s45 := hE3.comp st45 (by intro l hl hk; (try simp only [KC, KO, KU, KN, K0, KB] at hk ⊢); (repeat' (refine Or.elim hk (fun hk => ?_) (fun hk => ?_))) <;> first | exact hk | exact .inl hk | exact .inr hk | exact .inr (.inl hk) | exact .inr (.inr hk) | omega)
     replace h4 := h4.up2 st45
     replace hb_b1 := hb_b1.up2 st45 (by intro hk_; simp only [KU, KN, KC, KO, K0, KB] at hk_; (repeat' (refine Or.elim hk_ (fun hk_ => ?_) (fun hk_ => ?_))) <;> first | omega | exact absurd hk_.1 (by assumption))
     replace h2 := h2.up2 st45
     refine k_not rfl rfl ?_
     refine k_nil ?_
     refine k_keep [(0, _), (1, _), (3, _), (5, _), (48, _)] ⟨rfl, rfl, rfl, rfl, rfl, trivial⟩ ?_
     refine k_cond rfl (fun c46 => ?_) (fun c46 => ?_)
     ·
      have h := ibT h c46
      refine k_ret ?_
      obtain rfl := Option.some.inj h
      refine ⟨_, rfl, Ret.mk hS ?_⟩
      exact ⟨rfl, hI.1⟩
     ·
      have h := ibF h c46
      refine k_skip ?_
      refine k_region ?_
      refine k_load_blk one33 rfl hb_b1 rfl rfl ?_
      refine k_move rfl rfl ?_
      obtain ⟨x19, hx19, h⟩ := ob h
      refine k_cut_sl (i := (i64 (8 + (x6.toNat : Int)) : Int).toNat) (j := ((x2.length : Int) : Int).toNat) Tryd.underlying33 size5 rfl (SL.of_R h4) (CutAt.int rfl (subl_out hx19).1) (CutAt.len (by rw [List.length_map]; rfl)) (subl_ij hx19) (by rw [List.length_map]; exact subl_j hx19) rfl ?_
      intro vx19 hcx19
      rw [← List.map_drop, ← List.map_take, ← (subl_out hx19).2.2.2] at hcx19
      have hcx19 := R.of_SL hcx19
      refine k_store_c (cs' := [vx19]) size33 rfl rfl hb_b1 (by first | (simp; done) | omega | (dsimp only; omega)) (CellsOf.sl (SL.of_R hcx19)) rfl (by first | rfl | (simp; done) | (simp; omega)) rfl ?_
      intro s47 st47 hb_b1
      have szs47 := st47.size
      have hS : Step (KU (KB s.n Ky) (KC (ub1 + 1) 0)) s s47 := hS.comp st47 (by intro l hl hk; (try simp only [KC, KO, KU, KN, K0, KB] at hk ⊢); (repeat' (refine Or.elim hk (fun hk => ?_) (fun hk => ?_))) <;> first | exact hk | exact .inl hk | exact .inr hk | exact .inr (.inl hk) | exact .inr (.inr hk) | omega)
      have hE3 : Step (KU (KC (b2 + 1) 0) (KU (KB s.n Ky) (KC (ub1 + 1) 0))) s2 s47 := hE3.comp st47 (by intro l hl hk; (try simp only [KC, KO, KU, KN, K0, KB] at hk ⊢); (repeat' (refine Or.elim hk (fun hk => ?_) (fun hk => ?_))) <;> first | exact hk | exact .inl hk | exact .inr hk | exact .inr (.inl hk) | exact .inr (.inr hk) | omega)
      replace hcx19 := hcx19.up2 st47
      replace hI := hI.up2 st47
      replace h2 := h2.up2 st47
      refine k_nil ?_
      refine k_blk ?_
      exact k_stop ⟨(s47, x18.2, x19, vx19, x17.Count, x17.Size, x17.Sum, j), trivial, ⟨rfl, rfl, rfl, trivial⟩, ⟨rfl, hE3, hI, hcx19, hb_b1, h2, h⟩, (by simp)⟩
 ·
  have h := itF h c6
  refine k_exit rfl ?_
  refine k_end ?_
  obtain rfl := Option.some.inj h
  refine ⟨_, rfl, Ret.mk hS ?_⟩
  exact ⟨rfl, hI.1⟩

set_option maxHeartbeats 1000000 in
set_option maxRecDepth 100000 in
theorem frame_All_own_w {s : St} {v0 : Value} {a0 : (List UInt8)} {r : ((List (List UInt8)) × ApiTail)} (hp0 : R s v0 (.sl 1 (a0.map bD))) (h : frame_All a0 = some r) : Calls Tryd.prog 28 #[v0] s.w (Ret s K0 (fun s1 v => ∃ (u0 : Value), ∃ (lu0 : Lab), ∃ (u1 : List Value), v = .tuple #[u0, .agg u1.toArray] ∧ (s.n < lu0.o ∧ lu0.c = 0) ∧ Own s1 lu0 33 1 u0 (r.1.map (dL 1 bD)) ∧ RC s1 u1 (dApiTail r.2))) := by
 unfold frame_All at h
 have hS := Step.r0 K0 s
 refine k_fn_m (args := [v0]) Tryd.func28 rfl rfl ?_
 refine rk_seq ?_
 refine rk_run ?_
 refine k_region ?_
 refine k_assign rfl rfl ?_
 refine k_alloc zero51 rfl ?_
 intro s1 b1 st1 h1 ge1
 have szs1 := st1.size
 have hS := hS.trans0 st1
 replace hp0 := hp0.up2 st1
 have lt1 := h1.lt
 refine k_nil ?_
 refine k_stop ?_
 refine rk_seq ?_
 refine rk_run ?_
 refine k_region ?_
 refine k_alloc zero32 rfl ?_
 intro s2 b2 st2 h2 ge2
 have szs2 := st2.size
 have hS := hS.trans0 st2
 replace hp0 := hp0.up2 st2
 replace h1 := h1.up2 st2
 have lt2 := h2.lt
 refine k_nil ?_
 refine k_stop ?_
 refine rk_seq ?_
 refine rk_run ?_
 refine k_region ?_
 refine k_alloc zero51 rfl ?_
 intro s3 b3 st3 h3 ge3
 have szs3 := st3.size
 have hS := hS.trans0 st3
 replace hp0 := hp0.up2 st3
 replace h1 := h1.up2 st3
 replace h2 := h2.up2 st3
 have lt3 := h3.lt
 refine k_nil ?_
 refine k_stop ?_
 refine rk_seq ?_
 refine rk_seq ?_
 refine rk_run ?_
 refine k_region ?_
 refine k_move rfl rfl ?_
 obtain ⟨x1, hx1, h⟩ := ob h
 refine k_call cal43 rfl (frame_records_w  (show R s3 v0 (.sl 1 (a0.map bD)) from hp0) hx1) rfl ?_
 rintro s4 vr4 st4 ⟨ub4_0_0, rfl, hg4_0_0, h4_0_0⟩
 have szs4 := st4.size
 have hS := hS.trans0 st4
 replace h1 := h1.up2 st4
 replace h2 := h2.up2 st4
 replace h3 := h3.up2 st4
 refine k_nil ?_
 refine k_stop ?_
 have h6 : Own s4 ⟨b2 + 1, 7⟩ 33 1 (.slice none 0 0) (([] : List (List UInt8)).map (dL 1 bD)) := Own.nil (by first | (simp; done) | omega | (dsimp only; omega)) (by first | (simp; done) | omega | (dsimp only; omega))
 obtain ⟨x8, hx8, h⟩ := ob h
 have ltc_ub4_0_0 := h4_0_0.lt
 refine rk_rangeW (A := ((List UInt8) × ApiTail)) (X := ((List (List UInt8)) × Int × Int × UInt32)) (ps := [10, 11]) (fun (sl : St) (y : (List UInt8) × ApiTail) (vs : List Value) => ∃ (u0 : Value), ∃ (u1 : List Value), vs = [u0, .agg u1.toArray] ∧ R sl u0 ((dL 1 bD) y.1) ∧ RC sl u1 (dApiTail y.2)) (fun (x2 : ((List (List UInt8)) × Int × Int × UInt32)) (x3 : ((List UInt8) × ApiTail)) => (slices_Clone_byte_byte x3.1).bind fun x9 => (app 5864062014805 x2.1 ([x9] : List (List UInt8))).bind fun x10 => some (true, (x10, x3.2.Count, x3.2.Size, x3.2.Sum))) (fun (xL : ((List (List UInt8)) × Int × Int × UInt32)) (sl : St) => ∃ v7 : Value, (Own sl ⟨b2 + 1, 7⟩ 33 1 v7 (xL.1.map (dL 1 bD))) ∧ (Blk sl b2 ⟨b2 + 1, 0⟩ [v7] 32) ∧ (Blk sl b3 ⟨b3 + 1, 0⟩ [.int .i64 xL.2.1, .int .i64 xL.2.2.1, .int .u32 (xL.2.2.2.toNat : Int)] 51) ∧ (Blk sl b1 ⟨b1 + 1, 0⟩ [.int .i64 0, .int .i64 0, .int .u32 0] 51)) (KU (KC (b2 + 1) 7) (KU (KC (b2 + 1) 0) (KC (b3 + 1) 0))) (KC (ub4_0_0 + 1) 0) (fun _ => false) rfl cal53 (fun _ _ _ h => by obtain ⟨_, _, rfl, _, _⟩ := h; rfl) (by decide) (by intro lab h; (try simp only [KC, KO, KU, KN, K0, KB] at h); first | exact h.elim | omega) (by intro lab h; (try simp only [KC, KO, KU, KN, K0, KB] at h); first | exact h.elim | omega) ([], 0, 0, (0 : UInt32)) x8 ⟨(.slice none 0 0), h6, h2, h3, h1⟩ (by rintro x t1 t2 K ⟨v7, z0, z1, z2, z3⟩ st hK; exact ⟨v7, z0.up st (fun hk => by have hq := hK _ hk; (try dsimp only at hq); (try simp only [KC, KO, KU, KN, K0, KB] at hq); omega), z1.up st (fun hk => by have hq := hK _ hk; (try dsimp only at hq); (try simp only [KC, KO, KU, KN, K0, KB] at hq); omega), z2.up st (fun hk => by have hq := hK _ hk; (try dsimp only at hq); (try simp only [KC, KO, KU, KN, K0, KB] at hq); omega), z3.up st (fun hk => by have hq := hK _ hk; (try dsimp only at hq); (try simp only [KC, KO, KU, KN, K0, KB] at hq); omega)⟩) ?_ ?_ ?_
 ·
  intro l rec sR5 x2 x3 vsR rR5 hl1 hl2 hrec
  rintro ⟨v7, h7, h2, h3, h1⟩ hL henc hc5
  obtain ⟨uy5_0, uy5_1, rfl, hy5_0, hy5_1⟩ := henc
  try dsimp only at hc5
  obtain rfl := opnApiTail hy5_1
  have hRS5 := Step.r0 (KU (KC (l + 1) 0) (KU (KC (b2 + 1) 7) (KU (KC (b2 + 1) 0) (KC (b3 + 1) 0)))) sR5
  refine k_seq ?_
  refine k_region ?_
  refine k_assign rfl rfl ?_
  refine k_nil ?_
  refine k_keep [(4, _), (5, _), (6, _), (11, _)] ⟨rfl, rfl, rfl, rfl, trivial⟩ ?_
  refine k_region ?_
  refine k_alloc zero51 rfl ?_
  intro s8 b8 st8 h8 ge8
  have szs8 := st8.size
  have hRS5 := hRS5.trans0 st8
  replace hy5_0 := hy5_0.up2 st8
  replace h1 := h1.up2 st8
  replace h2 := h2.up2 st8
  replace h3 := h3.up2 st8
  replace h7 := h7.up2 st8
  replace hL := hL.up2 st8
  have lt8 := h8.lt
  refine k_store_c (cs' := [.int .i64 x3.2.Count, .int .i64 x3.2.Size, .int .u32 (x3.2.Sum.toNat : Int)]) size51 rfl rfl h8 (by first | (simp; done) | omega | (dsimp only; omega)) (CellsOf.lit rfl rfl) rfl (by first | rfl | (simp; done) | (simp; omega)) rfl ?_
  intro s9 st9 h8
  have szs9 := st9.size
  have hRS5 := hRS5.c0 st9
  replace hy5_0 := hy5_0.up2 st9
  replace h1 := h1.up2 st9
  replace h2 := h2.up2 st9
  replace h3 := h3.up2 st9
  replace h7 := h7.up2 st9
  replace hL := hL.up2 st9
  refine k_nil ?_
  refine k_stop ?_
  refine k_begin hL hrec ?_
  intro s10 st10 hL
  have szs10 := st10.size
  have hRS5 := hRS5.c0 st10
  replace hy5_0 := hy5_0.up2 st10
  replace h1 := h1.up2 st10
  replace h2 := h2.up2 st10
  replace h3 := h3.up2 st10
  replace h7 := h7.up2 st10
  replace h8 := h8.up2 st10
  refine k_keep [(4, _), (5, _), (6, _), (7, _)] ⟨rfl, rfl, rfl, rfl, trivial⟩ ?_
  refine k_block ?_
  obtain ⟨x9, hx9, hc5⟩ := ob hc5
  obtain ⟨x10, hx10, hc5⟩ := ob hc5
  refine k_drawT (KU (KN s10.n) (KU (KC (b2 + 1) 7) (KC (b2 + 1) 0))) 7 (.read 1 (.read 5 (.alt 0 (.alt 2 (.alt 3 (.alt 4 (.alt 6 .fin .no) .no) .no) .no) (.alt 2 (.alt 0 (.alt 3 (.alt 4 (.alt 6 .fin .no) .no) .no) (.alt 3 (.alt 0 (.alt 4 (.alt 6 .fin .no) .no) .no) .no)) .no)))) mixed (by intro c h; (try simp only [KC, KO, KU, KN, KB] at h) <;> omega) rfl rfl rfl ?_
  intro s11 st11
  have szs11 := st11.size
  have hRS5 := hRS5.trans0 st11
  replace hy5_0 := hy5_0.up2 st11
  replace h1 := h1.up2 st11
  replace h2 := h2.up2 st11
  replace h3 := h3.up2 st11
  replace h7 := h7.up2 st11
  replace h8 := h8.up2 st11
  replace hL := hL.up2 st11
  refine rt_read (uy5_0) rfl rfl (fun s12 st12 => ?_) ?_
  ·refine k_move rfl rfl ?_
   exact fq_end
  refine rt_read (.agg #[.int .i64 x3.2.Count, .int .i64 x3.2.Size, .int .u32 (x3.2.Sum.toNat : Int)]) rfl rfl (fun s13 st13 => ?_) ?_
  ·try replace h8 := h8.up2 st13
   refine k_load_blka (cs := [.int .i64 x3.2.Count, .int .i64 x3.2.Size, .int .u32 (x3.2.Sum.toNat : Int)]) agg51 rfl h8 rfl ?_
   exact fq_end
  refine rt_alt rfl rfl ?_ ?_
  ·
   have hA14 := Step.r0 (KU (KN s10.n) (KU (KC (b2 + 1) 7) (KC (b2 + 1) 0))) s11
   refine k_load_blk one32 rfl h2 rfl rfl ?_
   refine rt_cont hA14 ?_
   refine rt_act rfl rfl ?_
   have hA15 := Step.r0 (KU (KN s10.n) (KU (KC (b2 + 1) 7) (KC (b2 + 1) 0))) s11
   refine k_call cal34 rfl (slices_Clone_byte_byte_w  (SL.of_R hy5_0) hx9) rfl ?_
   rintro s16 v16_0 st16 ⟨_, rfl, h16_0⟩
   have szs16 := st16.size
   have hRS5 := hRS5.trans0 st16
   have hA15 := hA15.trans0 st16
   replace h1 := h1.up2 st16
   replace h2 := h2.up2 st16
   replace h3 := h3.up2 st16
   replace h7 := h7.up2 st16
   replace hL := hL.up2 st16
   refine rt_cont hA15 ?_
   refine rt_act rfl rfl ?_
   have hA17 := Step.r0 (KU (KN s10.n) (KU (KC (b2 + 1) 7) (KC (b2 + 1) 0))) s16
   refine k_bslice2 (ds := ([x9] : List (List UInt8)).map (dL 1 bD)) slc32 rfl (RVs.cons h16_0 RVs.nil) (by rfl) (by rfl) rfl rfl ?_
   intro s18 v18 b18 st18 ge18 bl18 h18
   have szs18 := st18.size
   have hRS5 := hRS5.trans0 st18
   have hA17 := hA17.trans0 st18
   replace h1 := h1.up2 st18
   replace h2 := h2.up2 st18
   replace h3 := h3.up2 st18
   replace h7 := h7.up2 st18
   replace hL := hL.up2 st18
   have lt18 := Own.le1 h18
   refine rt_cont hA17 ?_
   refine rt_act rfl rfl ?_
   have hA19 := Step.r0 (KU (KN s10.n) (KU (KC (b2 + 1) 7) (KC (b2 + 1) 0))) s18
   refine k_append (es := ([x9] : List (List UInt8)).map (dL 1 bD)) elem32 rfl rfl h7 (h18.sl) (by have := (app_out hx10).1; simp only [List.length_map] at *; omega) (by have := (app_out hx10).1; simp only [List.length_map] at *; omega) rfl ?_
   intro s20 v20 st20 h20
   rw [← List.map_append, ← (app_out hx10).2] at h20
   have szs20 := st20.size
   have hRS5 := hRS5.c0 st20
   have hA19 := hA19.c0 st20
   replace h1 := h1.up2 st20
   replace h2 := h2.up2 st20
   replace h3 := h3.up2 st20
   replace hL := hL.up2 st20
   refine rt_cont hA19 ?_
   refine rt_act0 rfl rfl ?_
   have hA21 := Step.r0 (KU (KN s10.n) (KU (KC (b2 + 1) 7) (KC (b2 + 1) 0))) s20
   refine k_store_c (cs' := [v20]) size32 rfl rfl h2 (by first | (simp; done) | omega | (dsimp only; omega)) (CellsOf.sl (h20.sl)) rfl (by first | rfl | (simp; done) | (simp; omega)) rfl ?_
   intro s22 st22 h2
   have szs22 := st22.size
   have hRS5 := hRS5.c0 st22
   have hA21 := hA21.c0 st22
   replace h1 := h1.up2 st22
   replace h3 := h3.up2 st22
   replace h20 := h20.up2 st22
   replace hL := hL.up2 st22
   refine rt_cont0 hA21 ?_
   refine rt_fin ?_
   refine k_store_c (cs' := [.int .i64 x3.2.Count, .int .i64 x3.2.Size, .int .u32 (x3.2.Sum.toNat : Int)]) size51 rfl rfl h3 (by first | (simp; done) | omega | (dsimp only; omega)) (CellsOf.lit rfl rfl) rfl (by first | rfl | (simp; done) | (simp; omega)) rfl ?_
   intro s23 st23 h3
   have szs23 := st23.size
   have hRS5 := hRS5.c0 st23
   replace h1 := h1.up2 st23
   replace h2 := h2.up2 st23
   replace h20 := h20.up2 st23
   replace hL := hL.up2 st23
   refine k_nil ?_
   refine k_blk ?_
   refine k_end ?_
   obtain rfl := Option.some.inj hc5
   exact ⟨rfl, s23, rfl, hRS5, hL, ⟨v20, h20, h2, h3, h1⟩⟩
  ·
   refine rt_act rfl rfl ?_
   have hA24 := Step.r0 (KU (KN s10.n) (KU (KC (b2 + 1) 7) (KC (b2 + 1) 0))) s11
   refine k_call cal34 rfl (slices_Clone_byte_byte_w  (SL.of_R hy5_0) hx9) rfl ?_
   rintro s25 v25_0 st25 ⟨_, rfl, h25_0⟩
   have szs25 := st25.size
   have hRS5 := hRS5.trans0 st25
   have hA24 := hA24.trans0 st25
   replace h1 := h1.up2 st25
   replace h2 := h2.up2 st25
   replace h3 := h3.up2 st25
   replace h7 := h7.up2 st25
   replace hL := hL.up2 st25
   refine rt_cont hA24 ?_
   refine rt_alt rfl rfl ?_ ?_
   ·
    have hA26 := Step.r0 (KU (KN s10.n) (KU (KC (b2 + 1) 7) (KC (b2 + 1) 0))) s25
    refine k_load_blk one32 rfl h2 rfl rfl ?_
    refine rt_cont hA26 ?_
    refine rt_act rfl rfl ?_
    have hA27 := Step.r0 (KU (KN s10.n) (KU (KC (b2 + 1) 7) (KC (b2 + 1) 0))) s25
    refine k_bslice2 (ds := ([x9] : List (List UInt8)).map (dL 1 bD)) slc32 rfl (RVs.cons h25_0 RVs.nil) (by rfl) (by rfl) rfl rfl ?_
    intro s28 v28 b28 st28 ge28 bl28 h28
    have szs28 := st28.size
    have hRS5 := hRS5.trans0 st28
    have hA27 := hA27.trans0 st28
    replace h1 := h1.up2 st28
    replace h2 := h2.up2 st28
    replace h3 := h3.up2 st28
    replace h7 := h7.up2 st28
    replace hL := hL.up2 st28
    have lt28 := Own.le1 h28
    refine rt_cont hA27 ?_
    refine rt_act rfl rfl ?_
    have hA29 := Step.r0 (KU (KN s10.n) (KU (KC (b2 + 1) 7) (KC (b2 + 1) 0))) s28
    refine k_append (es := ([x9] : List (List UInt8)).map (dL 1 bD)) elem32 rfl rfl h7 (h28.sl) (by have := (app_out hx10).1; simp only [List.length_map] at *; omega) (by have := (app_out hx10).1; simp only [List.length_map] at *; omega) rfl ?_
    intro s30 v30 st30 h30
    rw [← List.map_append, ← (app_out hx10).2] at h30
    have szs30 := st30.size
    have hRS5 := hRS5.c0 st30
    have hA29 := hA29.c0 st30
    replace h1 := h1.up2 st30
    replace h2 := h2.up2 st30
    replace h3 := h3.up2 st30
    replace hL := hL.up2 st30
    refine rt_cont hA29 ?_
    refine rt_act0 rfl rfl ?_
    have hA31 := Step.r0 (KU (KN s10.n) (KU (KC (b2 + 1) 7) (KC (b2 + 1) 0))) s30
    refine k_store_c (cs' := [v30]) size32 rfl rfl h2 (by first | (simp; done) | omega | (dsimp only; omega)) (CellsOf.sl (h30.sl)) rfl (by first | rfl | (simp; done) | (simp; omega)) rfl ?_
    intro s32 st32 h2
    have szs32 := st32.size
    have hRS5 := hRS5.c0 st32
    have hA31 := hA31.c0 st32
    replace h1 := h1.up2 st32
    replace h3 := h3.up2 st32
    replace h30 := h30.up2 st32
    replace hL := hL.up2 st32
    refine rt_cont0 hA31 ?_
    refine rt_fin ?_
    refine k_store_c (cs' := [.int .i64 x3.2.Count, .int .i64 x3.2.Size, .int .u32 (x3.2.Sum.toNat : Int)]) size51 rfl rfl h3 (by first | (simp; done) | omega | (dsimp only; omega)) (CellsOf.lit rfl rfl) rfl (by first | rfl | (simp; done) | (simp; omega)) rfl ?_
    intro s33 st33 h3
    have szs33 := st33.size
    have hRS5 := hRS5.c0 st33
    replace h1 := h1.up2 st33
    replace h2 := h2.up2 st33
    replace h30 := h30.up2 st33
    replace hL := hL.up2 st33
    refine k_nil ?_
    refine k_blk ?_
    refine k_end ?_
    obtain rfl := Option.some.inj hc5
    exact ⟨rfl, s33, rfl, hRS5, hL, ⟨v30, h30, h2, h3, h1⟩⟩
   ·
    refine rt_act rfl rfl ?_
    have hA34 := Step.r0 (KU (KN s10.n) (KU (KC (b2 + 1) 7) (KC (b2 + 1) 0))) s25
    refine k_bslice2 (ds := ([x9] : List (List UInt8)).map (dL 1 bD)) slc32 rfl (RVs.cons h25_0 RVs.nil) (by rfl) (by rfl) rfl rfl ?_
    intro s35 v35 b35 st35 ge35 bl35 h35
    have szs35 := st35.size
    have hRS5 := hRS5.trans0 st35
    have hA34 := hA34.trans0 st35
    replace h1 := h1.up2 st35
    replace h2 := h2.up2 st35
    replace h3 := h3.up2 st35
    replace h7 := h7.up2 st35
    replace hL := hL.up2 st35
    have lt35 := Own.le1 h35
    refine rt_cont hA34 ?_
    refine rt_act rfl rfl ?_
    have hA36 := Step.r0 (KU (KN s10.n) (KU (KC (b2 + 1) 7) (KC (b2 + 1) 0))) s35
    refine k_load_blk one32 rfl h2 rfl rfl ?_
    refine rt_cont hA36 ?_
    refine rt_act rfl rfl ?_
    have hA37 := Step.r0 (KU (KN s10.n) (KU (KC (b2 + 1) 7) (KC (b2 + 1) 0))) s35
    refine k_append (es := ([x9] : List (List UInt8)).map (dL 1 bD)) elem32 rfl rfl h7 (h35.sl) (by have := (app_out hx10).1; simp only [List.length_map] at *; omega) (by have := (app_out hx10).1; simp only [List.length_map] at *; omega) rfl ?_
    intro s38 v38 st38 h38
    rw [← List.map_append, ← (app_out hx10).2] at h38
    have szs38 := st38.size
    have hRS5 := hRS5.c0 st38
    have hA37 := hA37.c0 st38
    replace h1 := h1.up2 st38
    replace h2 := h2.up2 st38
    replace h3 := h3.up2 st38
    replace hL := hL.up2 st38
    refine rt_cont hA37 ?_
    refine rt_act0 rfl rfl ?_
    have hA39 := Step.r0 (KU (KN s10.n) (KU (KC (b2 + 1) 7) (KC (b2 + 1) 0))) s38
    refine k_store_c (cs' := [v38]) size32 rfl rfl h2 (by first | (simp; done) | omega | (dsimp only; omega)) (CellsOf.sl (h38.sl)) rfl (by first | rfl | (simp; done) | (simp; omega)) rfl ?_
    intro s40 st40 h2
    have szs40 := st40.size
    have hRS5 := hRS5.c0 st40
    have hA39 := hA39.c0 st40
    replace h1 := h1.up2 st40
    replace h3 := h3.up2 st40
    replace h38 := h38.up2 st40
    replace hL := hL.up2 st40
    refine rt_cont0 hA39 ?_
    refine rt_fin ?_
    refine k_store_c (cs' := [.int .i64 x3.2.Count, .int .i64 x3.2.Size, .int .u32 (x3.2.Sum.toNat : Int)]) size51 rfl rfl h3 (by first | (simp; done) | omega | (dsimp only; omega)) (CellsOf.lit rfl rfl) rfl (by first | rfl | (simp; done) | (simp; omega)) rfl ?_
    intro s41 st41 h3
    have szs41 := st41.size
    have hRS5 := hRS5.c0 st41
    replace h1 := h1.up2 st41
    replace h2 := h2.up2 st41
    replace h38 := h38.up2 st41
    replace hL := hL.up2 st41
    refine k_nil ?_
    refine k_blk ?_
    refine k_end ?_
    obtain rfl := Option.some.inj hc5
    exact ⟨rfl, s41, rfl, hRS5, hL, ⟨v38, h38, h2, h3, h1⟩⟩
 ·
  intro l t1 I' Ky st hl1 hl2 hK1 hK2 hY hI'
  have ltb_ub4_0_0 := h4_0_0.lt
  exact frame_records_1_w hY hI' (h4_0_0.up2 st) (fun h => by rcases hK2 _ h with h | h <;> (simp only [KU, KN, KC, KO, K0, KB, Lab.mk.injEq] at h) <;> omega) hx8
 ·
  intro D5 s42 stn5
  rintro ⟨v7, h7, h2, h3, h1⟩ hM5 hD5
  have szs42 := stn5.size
  have hS := hS.c0 stn5
  refine ⟨fun hq5 => ?_, fun hq5 => ?_⟩
  ·
   refine rk_last ?_
   refine k_seq ?_
   refine k_keep [(3, _), (4, _), (5, _)] ⟨rfl, rfl, rfl, trivial⟩ ?_
   refine k_drawT (KN s42.n) 3 (.read 0 (.read 1 (.read 2 .fin))) mixed (by intro c h; (try simp only [KC, KO, KU, KN, KB] at h) <;> omega) rfl rfl rfl ?_
   intro s43 st43
   have szs43 := st43.size
   have hS := hS.trans0 st43
   replace h1 := h1.up2 st43
   replace h2 := h2.up2 st43
   replace h3 := h3.up2 st43
   replace h7 := h7.up2 st43
   replace hM5 := hM5.up2 st43
   refine rt_read (v7) rfl rfl (fun s44 st44 => ?_) ?_
   ·try replace h2 := h2.up2 st44
    refine k_load_blk one32 rfl h2 rfl rfl ?_
    exact fq_end
   refine rt_read (.agg #[.int .i64 x8.2.2.1, .int .i64 x8.2.2.2.1, .int .u32 (x8.2.2.2.2.toNat : Int)]) rfl rfl (fun s45 st45 => ?_) ?_
   ·try replace h3 := h3.up2 st45
    refine k_load_blka (cs := [.int .i64 x8.2.2.1, .int .i64 x8.2.2.2.1, .int .u32 (x8.2.2.2.2.toNat : Int)]) agg51 rfl h3 rfl ?_
    exact fq_end
   refine rt_read (v7) rfl rfl (fun s46 st46 => ?_) ?_
   ·refine k_assign rfl rfl ?_
    exact fq_end
   refine rt_fin ?_
   refine k_store_c (cs' := [.int .i64 x8.2.2.1, .int .i64 x8.2.2.2.1, .int .u32 (x8.2.2.2.2.toNat : Int)]) size51 rfl rfl h1 (by first | (simp; done) | omega | (dsimp only; omega)) (CellsOf.lit rfl rfl) rfl (by first | rfl | (simp; done) | (simp; omega)) rfl ?_
   intro s47 st47 h1
   have szs47 := st47.size
   have hS := hS.c0 st47
   replace h7 := h7.up2 st47
   replace hM5 := hM5.up2 st47
   refine k_nil ?_
   refine k_keep [(2, _), (3, _)] ⟨rfl, rfl, trivial⟩ ?_
   refine k_ret ?_
   refine re_ret ?_
   refine re_cons hM5 (fun s48 st48 => ?_)
   have szs48 := st48.size
   have hS := hS.c0 st48
   replace h1 := h1.up2 st48
   replace h7 := h7.up2 st48
   obtain ⟨s49, e49, st49, h7⟩ := h7.zero
   rw [← e49]
   have szs49 := st49.size
   have hS := hS.c0 st49
   replace h1 := h1.up2 st49
   obtain rfl := Option.some.inj h
   refine re_nil_c (rs := [.tmp 2, .cell 3 51]) rfl rfl ?_
   refine ⟨[v7, .agg [.int .i64 x8.2.2.1, .int .i64 x8.2.2.2.1, .int .u32 (x8.2.2.2.2.toNat : Int)].toArray], ⟨rfl, res_blk (cs := [.int .i64 x8.2.2.1, .int .i64 x8.2.2.2.1, .int .u32 (x8.2.2.2.2.toNat : Int)]) rfl agg51 h1, trivial⟩, Ret.mk hS ?_⟩
   exact ⟨_, ⟨b2 + 1, 0⟩, _, rfl, ⟨by (try dsimp only); omega, rfl⟩, h7, (clsApiTail (⟨x8.2.2.1, x8.2.2.2.1, x8.2.2.2.2⟩ : ApiTail))⟩
  ·
   exact absurd hq5.2 (by decide)

set_option maxHeartbeats 1000000 in
set_option maxRecDepth 100000 in
theorem slices_Grow_byte_byte_nl_own_w {s : St} {a1 : Int} {r : (List UInt8)}  (h : slices_Grow_byte_byte_nl a1 = some r) : Calls Tryd.prog 58 #[.slice none 0 0, .int .i64 a1] s.w (Ret s K0 (fun s1 v => ∃ (u0 : Value), ∃ (lu0 : Lab), v = u0 ∧ (s.n < lu0.o ∧ lu0.c = 0) ∧ Own s1 lu0 5 1 u0 (r.map bD))) := by
 unfold slices_Grow_byte_byte_nl at h
 have hS := Step.r0 K0 s
 refine k_fn (rs := [4]) (args := [.slice none 0 0, .int .i64 a1]) Tryd.func58 rfl rfl rfl rfl ?_
 refine k_seq ?_
 refine k_region ?_
 refine k_assign rfl rfl ?_
 refine k_nil ?_
 refine k_seq ?_
 refine k_seq ?_
 refine k_region ?_
 refine k_move rfl rfl ?_
 refine k_lss rfl rfl rfl ?_
 refine k_nil ?_
 refine k_keep [(0, _), (1, _), (4, _), (6, _)] ⟨rfl, rfl, rfl, rfl, trivial⟩ ?_
 refine k_cond_dec rfl (fun c1 => ?_) (fun c1 => ?_)
 ·
  have h := itT h c1
  refine k_region ?_
  exact (noneNe h).elim
 ·
  have h := itF h c1
  refine k_skip ?_
  refine k_seq ?_
  refine k_seq ?_
  refine k_region ?_
  refine k_move rfl rfl ?_
  refine k_move rfl rfl ?_
  refine k_cap_nil Tryd.underlying33 rfl rfl ?_
  refine k_move rfl rfl ?_
  refine k_len Tryd.underlying33 rfl ⟨_, _, rfl⟩ rfl ?_
  refine k_sub_ rfl rfl rfl ?_
  refine k_as (v := .int .i64 0) (by first | rfl | decide) ?_
  refine k_sub_ rfl rfl rfl ?_
  refine k_assign rfl rfl ?_
  refine k_nil ?_
  refine k_keep [(0, _), (1, _), (4, _)] ⟨rfl, rfl, rfl, trivial⟩ ?_
  refine k_seq ?_
  refine k_region ?_
  refine k_move rfl rfl ?_
  refine k_gtr rfl rfl rfl ?_
  refine k_nil ?_
  refine k_keep [(0, _), (1, _), (4, _), (16, _)] ⟨rfl, rfl, rfl, rfl, trivial⟩ ?_
  refine k_cond_dec rfl (fun c2 => ?_) (fun c2 => ?_)
  ·
   have h := itT h c2
   refine k_region ?_
   refine k_move rfl rfl ?_
   refine k_move rfl rfl ?_
   refine k_cap_nil Tryd.underlying33 rfl rfl ?_
   refine k_cut_nil Tryd.underlying33 size5 rfl rfl rfl ?_
   refine k_move rfl rfl ?_
   by_cases c3 : 0 < i64 (a1 - 0)
   case neg => exact (noneNe (itF h c3)).elim
   replace h := itT h c3
   by_cases c4 : i64 (a1 - 0) ≤ 140737488355328
   case neg => exact (noneNe (itF h c4)).elim
   replace h := itT h c4
   obtain ⟨m5, em5⟩ : ∃ m : Nat, i64 (a1 - 0) = (m : Int) := ⟨(i64 (a1 - 0)).toNat, by omega⟩
   refine k_append_zeros (m := m5) elem33 Tryd.underlying3 rfl (congrArg (fun z => some (Value.int .i64 z)) em5) (by omega) (by omega) (by omega) rfl ?_
   intro s5 v5 st5 h5
   have szs5 := st5.size
   have hS := hS.trans0 st5
   refine k_move rfl rfl ?_
   refine k_len Tryd.underlying33 rfl ⟨_, _, rfl⟩ rfl ?_
   refine k_cut_row0 Tryd.underlying33 size5 rfl h5 rfl rfl ?_
   intro v6 h6
   replace h6 : Own s5 ⟨s.n + 1, 0⟩ 5 1 v6 (([] : List UInt8).map bD) := h6
   have lt6 := Own.le1 h6
   refine k_assign rfl rfl ?_
   refine k_nil ?_
   refine k_keep [(0, _), (4, _)] ⟨rfl, rfl, trivial⟩ ?_
   refine k_seq ?_
   refine k_region ?_
   refine k_move rfl rfl ?_
   refine k_assign rfl rfl ?_
   refine k_nil ?_
   refine k_keep [(4, _)] ⟨rfl, trivial⟩ ?_
   refine k_ret ?_
   obtain rfl := Option.some.inj h
   refine ⟨_, rfl, Ret.mk hS ?_⟩
   exact ⟨_, ⟨s.n + 1, 0⟩, rfl, ⟨by (try dsimp only); omega, rfl⟩, h6⟩
  ·
   have h := itF h c2
   refine k_skip ?_
   refine k_seq ?_
   refine k_region ?_
   refine k_move rfl rfl ?_
   refine k_assign rfl rfl ?_
   refine k_nil ?_
   refine k_keep [(4, _)] ⟨rfl, trivial⟩ ?_
   refine k_ret ?_
   obtain rfl := Option.some.inj h
   refine ⟨_, rfl, Ret.mk hS ?_⟩
   exact ⟨_, ⟨s.n + 1, 0⟩, rfl, ⟨by show s.n < s.n + 1; omega, rfl⟩, Own.nil (by simp) (Nat.le_refl _)⟩

set_option maxHeartbeats 1000000 in
set_option maxRecDepth 100000 in
theorem slices_Concat_byte_byte_w {s : St} {l0 : Lab} {v0 : Value} {a0 : (List (List UInt8))} {r : (List UInt8)} (hp0 : SL s l0 v0 1 (a0.map (dL 1 bD))) (h : slices_Concat_byte_byte a0 = some r) : Calls Tryd.prog 48 #[v0] s.w (Ret s K0 (fun s1 v => ∃ (u0 : Value), v = u0 ∧ R s1 u0 (.sl 1 (r.map bD)))) := by
 unfold slices_Concat_byte_byte at h
 obtain ⟨lf0, lf0le, lf0ne, hp0⟩ := hp0.fix
 have hS := Step.r0 K0 s
 refine k_fn (rs := [2]) (args := [v0]) Tryd.func48 rfl rfl rfl rfl ?_
 refine k_seq ?_
 refine k_region ?_
 refine k_assign rfl rfl ?_
 refine k_nil ?_
 refine k_seq ?_
 refine k_region ?_
 refine k_assign rfl rfl ?_
 refine k_nil ?_
 refine k_seq ?_
 obtain ⟨kj1, hK1, h⟩ := jn_out h
 have hE1 := Step.r0 K0 s
 refine k_cutc (X := St × Int) [(0, v0), (2, .slice none 0 0)] (fun (xL : St × Int) => match xL with | (sl, x2) => [(3, .int .i64 x2)]) (fun (xL : St × Int) (wL : World) => match xL with | (sl, x2) => sl.w = wL ∧ Step K0 s sl ∧ kj1 x2 = some r) ?_ ?_
 ·
  refine k_seq ?_
  refine k_region ?_
  refine k_move rfl rfl ?_
  refine k_len Tryd.underlying32 rfl hp0.hasLen rfl ?_
  refine k_as (v := .int .i64 (a0.length : Int)) (by simp only [List.length_map]) ?_
  refine k_move rfl rfl ?_
  refine k_nil ?_
  refine k_block ?_
  refine k_loopc (X := St × Int × Int × Nat) [(0, _), (2, _), (9, _), (10, _)] (fun (xL : St × Int × Int × Nat) => match xL with | (sl, x3, x4, j) => [(3, .int .i64 x3), (11, .int .i64 x4)]) (fun (xL : St × Int × Int × Nat) (wL : World) => match xL with | (sl, x3, x4, j) => sl.w = wL ∧ Step K0 s sl ∧ slices_Concat_byte_byte_l1 a0 kj1 j x3 x4 = some r) (fun (xL : St × Int × Int × Nat) => match xL with | (sl, x3, x4, j) => j) (s, 0, 0, FU) ⟨rfl, rfl, rfl, rfl, trivial⟩ ⟨(by first | rfl | (simp <;> rfl)), (by first | rfl | (simp <;> rfl)), trivial⟩ ⟨rfl, (Step.refl _).of0 (by first | exact fun _ h => h | (intro c h; simp [KC, KO, KU, KN, KB] at h <;> omega)), h⟩ ?_
  rintro ⟨s3, x3, x4, j⟩ wL ⟨rfl, hE2, h⟩
  cases j with
  | zero => rw [slices_Concat_byte_byte_l1] at h; exact (noneNe h).elim
  | succ j =>
  rw [slices_Concat_byte_byte_l1] at h
  have szs3 := hE2.size
  have hS := hS.trans0 hE2
  have hE1 := hE1.trans0 hE2
  replace hp0 := hp0.up2 hE2
  refine k_seq ?_
  refine k_region ?_
  refine k_lss rfl rfl rfl ?_
  refine k_nil ?_
  refine k_seq ?_
  refine k_cond_dec rfl (fun c4 => ?_) (fun c4 => ?_)
  ·
   have h := itT h c4
   refine k_skip ?_
   refine k_seq ?_
   refine k_block ?_
   refine k_seq ?_
   refine k_region ?_
   obtain ⟨x5, hx5, h⟩ := ob h
   refine k_ixaddr Tryd.underlying32 size33 rfl rfl hp0 (geti_out hx5).1 (geti_map hx5) rfl ?_
   intro qx5 hqx5
   refine k_load_sl one33 rfl hqx5 rfl ?_
   intro v5 h5
   refine k_assign rfl rfl ?_
   refine k_nil ?_
   refine k_keep [(0, _), (2, _), (3, _), (5, _), (9, _), (10, _), (11, _)] ⟨rfl, rfl, rfl, rfl, rfl, rfl, rfl, trivial⟩ ?_
   refine k_seq ?_
   refine k_region ?_
   refine k_move rfl rfl ?_
   refine k_move rfl rfl ?_
   refine k_len Tryd.underlying33 rfl (SL.of_R h5).hasLen rfl ?_
   refine k_as (v := .int .i64 (x5.length : Int)) (by simp only [List.length_map]) ?_
   refine k_add rfl rfl rfl ?_
   refine k_assign rfl rfl ?_
   refine k_nil ?_
   refine k_keep [(0, _), (2, _), (3, _), (9, _), (10, _), (11, _)] ⟨rfl, rfl, rfl, rfl, rfl, rfl, trivial⟩ ?_
   refine k_seq ?_
   refine k_region ?_
   refine k_move rfl rfl ?_
   refine k_lss rfl rfl rfl ?_
   refine k_nil ?_
   refine k_keep [(0, _), (2, _), (3, _), (9, _), (10, _), (11, _), (20, _)] ⟨rfl, rfl, rfl, rfl, rfl, rfl, rfl, trivial⟩ ?_
   refine k_cond_dec rfl (fun c6 => ?_) (fun c6 => ?_)
   ·
    have h := itT h c6
    refine k_region ?_
    exact (noneNe h).elim
   ·
    have h := itF h c6
    refine k_skip ?_
    refine k_blk ?_
    refine k_region ?_
    refine k_add rfl rfl rfl ?_
    refine k_move rfl rfl ?_
    refine k_nil ?_
    exact k_stop ⟨(s3, i64 (x3 + (x5.length : Int)), i64 (x4 + 1), j), ⟨(by first | rfl | (simp <;> rfl)), (by first | rfl | (simp <;> rfl)), trivial⟩, ⟨rfl, rfl, rfl, rfl, trivial⟩, ⟨rfl, hE2, h⟩, (by simp)⟩
  ·
   have h := itF h c4
   refine k_exit rfl ?_
   exact k_stop ⟨(s3, x3), ⟨(by first | rfl | (simp <;> rfl)), trivial⟩, ⟨rfl, rfl, trivial⟩, ⟨rfl, hE1, h⟩⟩
 ·
  rintro ⟨s7, x2⟩ wL ⟨rfl, hE1, h⟩
  rw [hK1] at h
  have szs7 := hE1.size
  have hS := hS.trans0 hE1
  replace hp0 := hp0.up2 hE1
  refine k_seq ?_
  refine k_region ?_
  refine k_move rfl rfl ?_
  obtain ⟨x6, hx6, h⟩ := ob h
  refine k_call cal58 rfl (slices_Grow_byte_byte_nl_own_w   hx6) rfl ?_
  rintro s8 v8_0 st8 ⟨_, l8_0, rfl, hl8_0, h8_0⟩
  have szs8 := st8.size
  have hS := hS.trans0 st8
  replace hp0 := hp0.up2 st8
  obtain ⟨l8_0, hl8_0, h8_0⟩ := Own.anew 2080 h8_0 hl8_0 szs8
  have lt8_0 := Own.le1 h8_0
  refine k_assign rfl rfl ?_
  refine k_nil ?_
  refine k_keep [(0, _), (2, _), (6, _)] ⟨rfl, rfl, rfl, trivial⟩ ?_
  refine k_seq ?_
  obtain ⟨kj7, hK9, h⟩ := jn_out h
  have hE9 := Step.r0 (KC l8_0.o l8_0.c) s8
  refine k_cutc (X := St × (List UInt8) × Value) [(2, .slice none 0 0)] (fun (xL : St × (List UInt8) × Value) => match xL with | (sl, x8, v10) => [(6, v10)]) (fun (xL : St × (List UInt8) × Value) (wL : World) => match xL with | (sl, x8, v10) => sl.w = wL ∧ Step (KC l8_0.o l8_0.c) s8 sl ∧ (Own sl ⟨l8_0.o, l8_0.c⟩ 5 1 v10 (x8.map bD)) ∧ kj7 x8 = some r) ?_ ?_
  ·
   refine k_seq ?_
   refine k_region ?_
   refine k_move rfl rfl ?_
   refine k_len Tryd.underlying32 rfl hp0.hasLen rfl ?_
   refine k_as (v := .int .i64 (a0.length : Int)) (by simp only [List.length_map]) ?_
   refine k_move rfl rfl ?_
   refine k_nil ?_
   refine k_keep [(2, _), (6, _), (25, _), (26, _), (27, _)] ⟨rfl, rfl, rfl, rfl, rfl, trivial⟩ ?_
   refine k_block ?_
   refine k_loopc (X := St × (List UInt8) × Value × Int × Nat) [(2, _), (25, _), (26, _)] (fun (xL : St × (List UInt8) × Value × Int × Nat) => match xL with | (sl, x9, v12, x10, j) => [(6, v12), (27, .int .i64 x10)]) (fun (xL : St × (List UInt8) × Value × Int × Nat) (wL : World) => match xL with | (sl, x9, v12, x10, j) => sl.w = wL ∧ Step (KC l8_0.o l8_0.c) s8 sl ∧ (Own sl ⟨l8_0.o, l8_0.c⟩ 5 1 v12 (x9.map bD)) ∧ slices_Concat_byte_byte_l2 a0 kj7 j x9 x10 = some r) (fun (xL : St × (List UInt8) × Value × Int × Nat) => match xL with | (sl, x9, v12, x10, j) => j) (s8, x6, v8_0, 0, FU) ⟨rfl, rfl, rfl, trivial⟩ ⟨(by first | rfl | (simp <;> rfl)), (by first | rfl | (simp <;> rfl)), trivial⟩ ⟨rfl, (Step.refl _).of0 (by first | exact fun _ h => h | (intro c h; simp [KC, KO, KU, KN, KB] at h <;> omega)), h8_0, h⟩ ?_
   rintro ⟨s13, x9, v12, x10, j⟩ wL ⟨rfl, hE11, h12, h⟩
   cases j with
   | zero => rw [slices_Concat_byte_byte_l2] at h; exact (noneNe h).elim
   | succ j =>
   rw [slices_Concat_byte_byte_l2] at h
   have szs13 := hE11.size
   have hS := hS.c0 hE11
   have hE9 := hE9.c0 hE11
   replace hp0 := hp0.up2 hE11
   refine k_seq ?_
   refine k_region ?_
   refine k_lss rfl rfl rfl ?_
   refine k_nil ?_
   refine k_seq ?_
   refine k_cond_dec rfl (fun c14 => ?_) (fun c14 => ?_)
   ·
    have h := itT h c14
    refine k_skip ?_
    refine k_seq ?_
    refine k_block ?_
    refine k_seq ?_
    refine k_region ?_
    obtain ⟨x11, hx11, h⟩ := ob h
    refine k_ixaddr Tryd.underlying32 size33 rfl rfl hp0 (geti_out hx11).1 (geti_map hx11) rfl ?_
    intro qx11 hqx11
    refine k_load_sl one33 rfl hqx11 rfl ?_
    intro v15 h15
    refine k_assign rfl rfl ?_
    refine k_nil ?_
    refine k_keep [(2, _), (6, _), (8, _), (25, _), (26, _), (27, _)] ⟨rfl, rfl, rfl, rfl, rfl, rfl, trivial⟩ ?_
    refine k_region ?_
    refine k_move rfl rfl ?_
    refine k_move rfl rfl ?_
    obtain ⟨x12, hx12, h⟩ := ob h
    refine k_append (es := x11.map bD) elem33 rfl rfl h12 (SL.of_R h15) (by have := (app_out hx12).1; simp only [List.length_map] at *; omega) (by have := (app_out hx12).1; simp only [List.length_map] at *; omega) rfl ?_
    intro s16 v16 st16 h16
    rw [← List.map_append, ← (app_out hx12).2] at h16
    have szs16 := st16.size
    have hS := hS.c0 st16
    have hE9 := hE9.c0 st16
    have hE11 := hE11.c0 st16
    refine k_assign rfl rfl ?_
    refine k_nil ?_
    refine k_blk ?_
    refine k_region ?_
    refine k_add rfl rfl rfl ?_
    refine k_move rfl rfl ?_
    refine k_nil ?_
    exact k_stop ⟨(s16, x12, v16, i64 (x10 + 1), j), ⟨(by first | rfl | (simp <;> rfl)), (by first | rfl | (simp <;> rfl)), trivial⟩, ⟨rfl, rfl, rfl, trivial⟩, ⟨rfl, hE11, h16, h⟩, (by simp)⟩
   ·
    have h := itF h c14
    refine k_exit rfl ?_
    exact k_stop ⟨(s13, x9, v12), ⟨(by first | rfl | (simp <;> rfl)), trivial⟩, ⟨rfl, trivial⟩, ⟨rfl, hE9, h12, h⟩⟩
  ·
   rintro ⟨s17, x8, v10⟩ wL ⟨rfl, hE9, h10, h⟩
   rw [hK9] at h
   have szs17 := hE9.size
   have hS := hS.c0 hE9
   refine k_seq ?_
   refine k_region ?_
   refine k_move rfl rfl ?_
   refine k_assign rfl rfl ?_
   refine k_nil ?_
   refine k_keep [(2, _)] ⟨rfl, trivial⟩ ?_
   refine k_ret ?_
   obtain ⟨s18, e18, st18, h18⟩ := h10.freeze
   rw [← e18]
   have szs18 := st18.size
   have hS := hS.c0 st18
   obtain rfl := Option.some.inj h
   refine ⟨_, rfl, Ret.mk hS ?_⟩
   exact ⟨_, rfl, h18⟩

set_option maxHeartbeats 1000000 in
set_option maxRecDepth 100000 in
theorem slices_Grow_disk_picture_disk_file_nl_own_w {s : St} {a1 : Int} {r : (List DiskFile)}  (h : slices_Grow_disk_picture_disk_file_nl a1 = some r) : Calls Tryd.prog 107 #[.slice none 0 0, .int .i64 a1] s.w (Ret s K0 (fun s1 v => ∃ (u0 : Value), ∃ (lu0 : Lab), v = u0 ∧ (s.n < lu0.o ∧ lu0.c = 0) ∧ Own s1 lu0 80 2 u0 (r.map dDiskFile))) := by
 unfold slices_Grow_disk_picture_disk_file_nl at h
 have hS := Step.r0 K0 s
 refine k_fn (rs := [4]) (args := [.slice none 0 0, .int .i64 a1]) Tryd.func107 rfl rfl rfl rfl ?_
 refine k_seq ?_
 refine k_region ?_
 refine k_assign rfl rfl ?_
 refine k_nil ?_
 refine k_seq ?_
 refine k_seq ?_
 refine k_region ?_
 refine k_move rfl rfl ?_
 refine k_lss rfl rfl rfl ?_
 refine k_nil ?_
 refine k_keep [(0, _), (1, _), (4, _), (6, _)] ⟨rfl, rfl, rfl, rfl, trivial⟩ ?_
 refine k_cond_dec rfl (fun c1 => ?_) (fun c1 => ?_)
 ·
  have h := itT h c1
  refine k_region ?_
  exact (noneNe h).elim
 ·
  have h := itF h c1
  refine k_skip ?_
  refine k_seq ?_
  refine k_seq ?_
  refine k_region ?_
  refine k_move rfl rfl ?_
  refine k_move rfl rfl ?_
  refine k_cap_nil Tryd.underlying76 rfl rfl ?_
  refine k_move rfl rfl ?_
  refine k_len Tryd.underlying76 rfl ⟨_, _, rfl⟩ rfl ?_
  refine k_sub_ rfl rfl rfl ?_
  refine k_as (v := .int .i64 0) (by first | rfl | decide) ?_
  refine k_sub_ rfl rfl rfl ?_
  refine k_assign rfl rfl ?_
  refine k_nil ?_
  refine k_keep [(0, _), (1, _), (4, _)] ⟨rfl, rfl, rfl, trivial⟩ ?_
  refine k_seq ?_
  refine k_region ?_
  refine k_move rfl rfl ?_
  refine k_gtr rfl rfl rfl ?_
  refine k_nil ?_
  refine k_keep [(0, _), (1, _), (4, _), (16, _)] ⟨rfl, rfl, rfl, rfl, trivial⟩ ?_
  refine k_cond_dec rfl (fun c2 => ?_) (fun c2 => ?_)
  ·
   have h := itT h c2
   refine k_region ?_
   refine k_move rfl rfl ?_
   refine k_move rfl rfl ?_
   refine k_cap_nil Tryd.underlying76 rfl rfl ?_
   refine k_cut_nil Tryd.underlying76 size80 rfl rfl rfl ?_
   refine k_move rfl rfl ?_
   by_cases c3 : 0 < i64 (a1 - 0)
   case neg => exact (noneNe (itF h c3)).elim
   replace h := itT h c3
   by_cases c4 : i64 (a1 - 0) ≤ 3518437208883
   case neg => exact (noneNe (itF h c4)).elim
   replace h := itT h c4
   obtain ⟨m5, em5⟩ : ∃ m : Nat, i64 (a1 - 0) = (m : Int) := ⟨(i64 (a1 - 0)).toNat, by omega⟩
   refine k_append_zeros (m := m5) elem76 Tryd.underlying3 rfl (congrArg (fun z => some (Value.int .i64 z)) em5) (by omega) (by omega) (by omega) rfl ?_
   intro s5 v5 st5 h5
   have szs5 := st5.size
   have hS := hS.trans0 st5
   refine k_move rfl rfl ?_
   refine k_len Tryd.underlying76 rfl ⟨_, _, rfl⟩ rfl ?_
   refine k_cut_row0 Tryd.underlying76 size80 rfl h5 rfl rfl ?_
   intro v6 h6
   replace h6 : Own s5 ⟨s.n + 1, 0⟩ 80 2 v6 (([] : List DiskFile).map dDiskFile) := h6
   have lt6 := Own.le1 h6
   refine k_assign rfl rfl ?_
   refine k_nil ?_
   refine k_keep [(0, _), (4, _)] ⟨rfl, rfl, trivial⟩ ?_
   refine k_seq ?_
   refine k_region ?_
   refine k_move rfl rfl ?_
   refine k_assign rfl rfl ?_
   refine k_nil ?_
   refine k_keep [(4, _)] ⟨rfl, trivial⟩ ?_
   refine k_ret ?_
   obtain rfl := Option.some.inj h
   refine ⟨_, rfl, Ret.mk hS ?_⟩
   exact ⟨_, ⟨s.n + 1, 0⟩, rfl, ⟨by (try dsimp only); omega, rfl⟩, h6⟩
  ·
   have h := itF h c2
   refine k_skip ?_
   refine k_seq ?_
   refine k_region ?_
   refine k_move rfl rfl ?_
   refine k_assign rfl rfl ?_
   refine k_nil ?_
   refine k_keep [(4, _)] ⟨rfl, trivial⟩ ?_
   refine k_ret ?_
   obtain rfl := Option.some.inj h
   refine ⟨_, rfl, Ret.mk hS ?_⟩
   exact ⟨_, ⟨s.n + 1, 0⟩, rfl, ⟨by show s.n < s.n + 1; omega, rfl⟩, Own.nil (by simp) (Nat.le_refl _)⟩

set_option maxHeartbeats 1000000 in
set_option maxRecDepth 100000 in
theorem slices_Concat_disk_picture_disk_file_w {s : St} {l0 : Lab} {v0 : Value} {a0 : (List (List DiskFile))} {r : (List DiskFile)} (hp0 : SL s l0 v0 1 (a0.map (dL 2 dDiskFile))) (h : slices_Concat_disk_picture_disk_file a0 = some r) : Calls Tryd.prog 106 #[v0] s.w (Ret s K0 (fun s1 v => ∃ (u0 : Value), v = u0 ∧ R s1 u0 (.sl 2 (r.map dDiskFile)))) := by
 unfold slices_Concat_disk_picture_disk_file at h
 obtain ⟨lf0, lf0le, lf0ne, hp0⟩ := hp0.fix
 have hS := Step.r0 K0 s
 refine k_fn (rs := [2]) (args := [v0]) Tryd.func106 rfl rfl rfl rfl ?_
 refine k_seq ?_
 refine k_region ?_
 refine k_assign rfl rfl ?_
 refine k_nil ?_
 refine k_seq ?_
 refine k_region ?_
 refine k_assign rfl rfl ?_
 refine k_nil ?_
 refine k_seq ?_
 obtain ⟨kj1, hK1, h⟩ := jn_out h
 have hE1 := Step.r0 K0 s
 refine k_cutc (X := St × Int) [(0, v0), (2, .slice none 0 0)] (fun (xL : St × Int) => match xL with | (sl, x2) => [(3, .int .i64 x2)]) (fun (xL : St × Int) (wL : World) => match xL with | (sl, x2) => sl.w = wL ∧ Step K0 s sl ∧ kj1 x2 = some r) ?_ ?_
 ·
  refine k_seq ?_
  refine k_region ?_
  refine k_move rfl rfl ?_
  refine k_len Tryd.underlying59 rfl hp0.hasLen rfl ?_
  refine k_as (v := .int .i64 (a0.length : Int)) (by simp only [List.length_map]) ?_
  refine k_move rfl rfl ?_
  refine k_nil ?_
  refine k_block ?_
  refine k_loopc (X := St × Int × Int × Nat) [(0, _), (2, _), (9, _), (10, _)] (fun (xL : St × Int × Int × Nat) => match xL with | (sl, x3, x4, j) => [(3, .int .i64 x3), (11, .int .i64 x4)]) (fun (xL : St × Int × Int × Nat) (wL : World) => match xL with | (sl, x3, x4, j) => sl.w = wL ∧ Step K0 s sl ∧ slices_Concat_disk_picture_disk_file_l1 a0 kj1 j x3 x4 = some r) (fun (xL : St × Int × Int × Nat) => match xL with | (sl, x3, x4, j) => j) (s, 0, 0, FU) ⟨rfl, rfl, rfl, rfl, trivial⟩ ⟨(by first | rfl | (simp <;> rfl)), (by first | rfl | (simp <;> rfl)), trivial⟩ ⟨rfl, (Step.refl _).of0 (by first | exact fun _ h => h | (intro c h; simp [KC, KO, KU, KN, KB] at h <;> omega)), h⟩ ?_
  rintro ⟨s3, x3, x4, j⟩ wL ⟨rfl, hE2, h⟩
  cases j with
  | zero => rw [slices_Concat_disk_picture_disk_file_l1] at h; exact (noneNe h).elim
  | succ j =>
  rw [slices_Concat_disk_picture_disk_file_l1] at h
  have szs3 := hE2.size
  have hS := hS.trans0 hE2
  have hE1 := hE1.trans0 hE2
  replace hp0 := hp0.up2 hE2
  refine k_seq ?_
  refine k_region ?_
  refine k_lss rfl rfl rfl ?_
  refine k_nil ?_
  refine k_seq ?_
  refine k_cond_dec rfl (fun c4 => ?_) (fun c4 => ?_)
  ·
   have h := itT h c4
   refine k_skip ?_
   refine k_seq ?_
   refine k_block ?_
   refine k_seq ?_
   refine k_region ?_
   obtain ⟨x5, hx5, h⟩ := ob h
   refine k_ixaddr Tryd.underlying59 size76 rfl rfl hp0 (geti_out hx5).1 (geti_map hx5) rfl ?_
   intro qx5 hqx5
   refine k_load_sl one76 rfl hqx5 rfl ?_
   intro v5 h5
   refine k_assign rfl rfl ?_
   refine k_nil ?_
   refine k_keep [(0, _), (2, _), (3, _), (5, _), (9, _), (10, _), (11, _)] ⟨rfl, rfl, rfl, rfl, rfl, rfl, rfl, trivial⟩ ?_
   refine k_seq ?_
   refine k_region ?_
   refine k_move rfl rfl ?_
   refine k_move rfl rfl ?_
   refine k_len Tryd.underlying76 rfl (SL.of_R h5).hasLen rfl ?_
   refine k_as (v := .int .i64 (x5.length : Int)) (by simp only [List.length_map]) ?_
   refine k_add rfl rfl rfl ?_
   refine k_assign rfl rfl ?_
   refine k_nil ?_
   refine k_keep [(0, _), (2, _), (3, _), (9, _), (10, _), (11, _)] ⟨rfl, rfl, rfl, rfl, rfl, rfl, trivial⟩ ?_
   refine k_seq ?_
   refine k_region ?_
   refine k_move rfl rfl ?_
   refine k_lss rfl rfl rfl ?_
   refine k_nil ?_
   refine k_keep [(0, _), (2, _), (3, _), (9, _), (10, _), (11, _), (20, _)] ⟨rfl, rfl, rfl, rfl, rfl, rfl, rfl, trivial⟩ ?_
   refine k_cond_dec rfl (fun c6 => ?_) (fun c6 => ?_)
   ·
    have h := itT h c6
    refine k_region ?_
    exact (noneNe h).elim
   ·
    have h := itF h c6
    refine k_skip ?_
    refine k_blk ?_
    refine k_region ?_
    refine k_add rfl rfl rfl ?_
    refine k_move rfl rfl ?_
    refine k_nil ?_
    exact k_stop ⟨(s3, i64 (x3 + (x5.length : Int)), i64 (x4 + 1), j), ⟨(by first | rfl | (simp <;> rfl)), (by first | rfl | (simp <;> rfl)), trivial⟩, ⟨rfl, rfl, rfl, rfl, trivial⟩, ⟨rfl, hE2, h⟩, (by simp)⟩
  ·
   have h := itF h c4
   refine k_exit rfl ?_
   exact k_stop ⟨(s3, x3), ⟨(by first | rfl | (simp <;> rfl)), trivial⟩, ⟨rfl, rfl, trivial⟩, ⟨rfl, hE1, h⟩⟩
 ·
  rintro ⟨s7, x2⟩ wL ⟨rfl, hE1, h⟩
  rw [hK1] at h
  have szs7 := hE1.size
  have hS := hS.trans0 hE1
  replace hp0 := hp0.up2 hE1
  refine k_seq ?_
  refine k_region ?_
  refine k_move rfl rfl ?_
  obtain ⟨x6, hx6, h⟩ := ob h
  refine k_call cal107 rfl (slices_Grow_disk_picture_disk_file_nl_own_w   hx6) rfl ?_
  rintro s8 v8_0 st8 ⟨_, l8_0, rfl, hl8_0, h8_0⟩
  have szs8 := st8.size
  have hS := hS.trans0 st8
  replace hp0 := hp0.up2 st8
  obtain ⟨l8_0, hl8_0, h8_0⟩ := Own.anew 2080 h8_0 hl8_0 szs8
  have lt8_0 := Own.le1 h8_0
  refine k_assign rfl rfl ?_
  refine k_nil ?_
  refine k_keep [(0, _), (2, _), (6, _)] ⟨rfl, rfl, rfl, trivial⟩ ?_
  refine k_seq ?_
  obtain ⟨kj7, hK9, h⟩ := jn_out h
  have hE9 := Step.r0 (KC l8_0.o l8_0.c) s8
  refine k_cutc (X := St × (List DiskFile) × Value) [(2, .slice none 0 0)] (fun (xL : St × (List DiskFile) × Value) => match xL with | (sl, x8, v10) => [(6, v10)]) (fun (xL : St × (List DiskFile) × Value) (wL : World) => match xL with | (sl, x8, v10) => sl.w = wL ∧ Step (KC l8_0.o l8_0.c) s8 sl ∧ (Own sl ⟨l8_0.o, l8_0.c⟩ 80 2 v10 (x8.map dDiskFile)) ∧ kj7 x8 = some r) ?_ ?_
  ·
   refine k_seq ?_
   refine k_region ?_
   refine k_move rfl rfl ?_
   refine k_len Tryd.underlying59 rfl hp0.hasLen rfl ?_
   refine k_as (v := .int .i64 (a0.length : Int)) (by simp only [List.length_map]) ?_
   refine k_move rfl rfl ?_
   refine k_nil ?_
   refine k_keep [(2, _), (6, _), (25, _), (26, _), (27, _)] ⟨rfl, rfl, rfl, rfl, rfl, trivial⟩ ?_
   refine k_block ?_
   refine k_loopc (X := St × (List DiskFile) × Value × Int × Nat) [(2, _), (25, _), (26, _)] (fun (xL : St × (List DiskFile) × Value × Int × Nat) => match xL with | (sl, x9, v12, x10, j) => [(6, v12), (27, .int .i64 x10)]) (fun (xL : St × (List DiskFile) × Value × Int × Nat) (wL : World) => match xL with | (sl, x9, v12, x10, j) => sl.w = wL ∧ Step (KC l8_0.o l8_0.c) s8 sl ∧ (Own sl ⟨l8_0.o, l8_0.c⟩ 80 2 v12 (x9.map dDiskFile)) ∧ slices_Concat_disk_picture_disk_file_l2 a0 kj7 j x9 x10 = some r) (fun (xL : St × (List DiskFile) × Value × Int × Nat) => match xL with | (sl, x9, v12, x10, j) => j) (s8, x6, v8_0, 0, FU) ⟨rfl, rfl, rfl, trivial⟩ ⟨(by first | rfl | (simp <;> rfl)), (by first | rfl | (simp <;> rfl)), trivial⟩ ⟨rfl, (Step.refl _).of0 (by first | exact fun _ h => h | (intro c h; simp [KC, KO, KU, KN, KB] at h <;> omega)), h8_0, h⟩ ?_
   rintro ⟨s13, x9, v12, x10, j⟩ wL ⟨rfl, hE11, h12, h⟩
   cases j with
   | zero => rw [slices_Concat_disk_picture_disk_file_l2] at h; exact (noneNe h).elim
   | succ j =>
   rw [slices_Concat_disk_picture_disk_file_l2] at h
   have szs13 := hE11.size
   have hS := hS.c0 hE11
   have hE9 := hE9.c0 hE11
   replace hp0 := hp0.up2 hE11
   refine k_seq ?_
   refine k_region ?_
   refine k_lss rfl rfl rfl ?_
   refine k_nil ?_
   refine k_seq ?_
   refine k_cond_dec rfl (fun c14 => ?_) (fun c14 => ?_)
   ·
    have h := itT h c14
    refine k_skip ?_
    refine k_seq ?_
    refine k_block ?_
    refine k_seq ?_
    refine k_region ?_
    obtain ⟨x11, hx11, h⟩ := ob h
    refine k_ixaddr Tryd.underlying59 size76 rfl rfl hp0 (geti_out hx11).1 (geti_map hx11) rfl ?_
    intro qx11 hqx11
    refine k_load_sl one76 rfl hqx11 rfl ?_
    intro v15 h15
    refine k_assign rfl rfl ?_
    refine k_nil ?_
    refine k_keep [(2, _), (6, _), (8, _), (25, _), (26, _), (27, _)] ⟨rfl, rfl, rfl, rfl, rfl, rfl, trivial⟩ ?_
    refine k_region ?_
    refine k_move rfl rfl ?_
    refine k_move rfl rfl ?_
    obtain ⟨x12, hx12, h⟩ := ob h
    refine k_append (es := x11.map dDiskFile) elem76 rfl rfl h12 (SL.of_R h15) (by have := (app_out hx12).1; simp only [List.length_map] at *; omega) (by have := (app_out hx12).1; simp only [List.length_map] at *; omega) rfl ?_
    intro s16 v16 st16 h16
    rw [← List.map_append, ← (app_out hx12).2] at h16
    have szs16 := st16.size
    have hS := hS.c0 st16
    have hE9 := hE9.c0 st16
    have hE11 := hE11.c0 st16
    refine k_assign rfl rfl ?_
    refine k_nil ?_
    refine k_blk ?_
    refine k_region ?_
    refine k_add rfl rfl rfl ?_
    refine k_move rfl rfl ?_
    refine k_nil ?_
    exact k_stop ⟨(s16, x12, v16, i64 (x10 + 1), j), ⟨(by first | rfl | (simp <;> rfl)), (by first | rfl | (simp <;> rfl)), trivial⟩, ⟨rfl, rfl, rfl, trivial⟩, ⟨rfl, hE11, h16, h⟩, (by simp)⟩
   ·
    have h := itF h c14
    refine k_exit rfl ?_
    exact k_stop ⟨(s13, x9, v12), ⟨(by first | rfl | (simp <;> rfl)), trivial⟩, ⟨rfl, trivial⟩, ⟨rfl, hE9, h12, h⟩⟩
  ·
   rintro ⟨s17, x8, v10⟩ wL ⟨rfl, hE9, h10, h⟩
   rw [hK9] at h
   have szs17 := hE9.size
   have hS := hS.c0 hE9
   refine k_seq ?_
   refine k_region ?_
   refine k_move rfl rfl ?_
   refine k_assign rfl rfl ?_
   refine k_nil ?_
   refine k_keep [(2, _)] ⟨rfl, trivial⟩ ?_
   refine k_ret ?_
   obtain ⟨s18, e18, st18, h18⟩ := h10.freeze
   rw [← e18]
   have szs18 := st18.size
   have hS := hS.c0 st18
   obtain rfl := Option.some.inj h
   refine ⟨_, rfl, Ret.mk hS ?_⟩
   exact ⟨_, rfl, h18⟩

set_option maxHeartbeats 1000000 in
set_option maxRecDepth 100000 in
theorem disk_picture_without_w {s : St} {v0 : Value} {a0 : (List DiskFile)} {a1 : (List UInt8)} {r : (List DiskFile)} (hp0 : R s v0 (.sl 2 (a0.map dDiskFile))) (h : disk_picture_without a0 a1 = some r) : Calls Tryd.prog 105 #[v0, S a1] s.w (Ret s K0 (fun s1 v => ∃ (u0 : Value), v = u0 ∧ R s1 u0 (.sl 2 (r.map dDiskFile)))) := by
 unfold disk_picture_without at h
 have hS := Step.r0 K0 s
 refine k_fn (rs := [4]) (args := [v0, S a1]) Tryd.func105 rfl rfl rfl rfl ?_
 refine k_seq ?_
 refine k_region ?_
 refine k_assign rfl rfl ?_
 refine k_nil ?_
 refine k_seq ?_
 refine k_region ?_
 refine k_move rfl rfl ?_
 refine k_move rfl rfl ?_
 obtain ⟨x1, hx1, h⟩ := ob h
 refine k_call cal51 rfl (disk_picture_find_w  (SL.of_R hp0) hx1) rfl ?_
 rintro s1 vr1 st1 rfl
 have szs1 := st1.size
 have hS := hS.trans0 st1
 replace hp0 := hp0.up2 st1
 refine k_move rfl rfl ?_
 refine k_extract rfl rfl rfl ?_
 refine k_extract rfl rfl rfl ?_
 refine k_assign rfl rfl ?_
 refine k_assign rfl rfl ?_
 refine k_nil ?_
 refine k_keep [(0, _), (4, _), (5, _), (6, _)] ⟨rfl, rfl, rfl, rfl, trivial⟩ ?_
 refine k_seq ?_
 refine k_seq ?_
 refine k_region ?_
 refine k_move rfl rfl ?_
 refine k_not rfl rfl ?_
 refine k_nil ?_
 refine k_keep [(0, _), (4, _), (5, _), (14, _)] ⟨rfl, rfl, rfl, rfl, trivial⟩ ?_
 refine k_cond rfl (fun c2 => ?_) (fun c2 => ?_)
 ·
  have h := ibT h c2
  refine k_seq ?_
  refine k_region ?_
  refine k_move rfl rfl ?_
  refine k_assign rfl rfl ?_
  refine k_nil ?_
  refine k_keep [(0, _), (4, _), (5, _)] ⟨rfl, rfl, rfl, trivial⟩ ?_
  refine k_ret ?_
  obtain rfl := Option.some.inj h
  refine ⟨_, rfl, Ret.mk hS ?_⟩
  exact ⟨_, rfl, hp0⟩
 ·
  have h := ibF h c2
  refine k_skip ?_
  refine k_seq ?_
  refine k_keep [(0, _), (4, _), (5, _)] ⟨rfl, rfl, rfl, trivial⟩ ?_
  obtain ⟨x2, hx2, h⟩ := ob h
  obtain ⟨x3, hx3, h⟩ := ob h
  refine k_drawT (KN s1.n) 7 (.read 0 (.read 1 (.read 3 (.read 4 (.read 5 (.alt 2 (.alt 6 .fin .no) (.alt 6 (.alt 2 .fin .no) .no))))))) mixed (by intro c h; (try simp only [KC, KO, KU, KN, KB] at h) <;> omega) rfl rfl rfl ?_
  intro s3 st3
  have szs3 := st3.size
  have hS := hS.trans0 st3
  replace hp0 := hp0.up2 st3
  refine rt_read (v0) rfl rfl (fun s4 st4 => ?_) ?_
  ·refine k_move rfl rfl ?_
   exact fq_end
  refine rt_read (.int .i64 x1.1) rfl rfl (fun s5 st5 => ?_) ?_
  ·refine k_move rfl rfl ?_
   exact fq_end
  refine rt_read (v0) rfl rfl (fun s6 st6 => ?_) ?_
  ·refine k_move rfl rfl ?_
   exact fq_end
  refine rt_read (.int .i64 x1.1) rfl rfl (fun s7 st7 => ?_) ?_
  ·refine k_move rfl rfl ?_
   exact fq_end
  refine rt_read (.int .i64 (i64 (x1.1 + 1))) rfl rfl (fun s8 st8 => ?_) ?_
  ·refine k_add rfl rfl rfl ?_
   exact fq_end
  refine rt_alt rfl rfl ?_ ?_
  ·
   have hA9 := Step.r0 (KN s1.n) s3
   refine k_cut_sl (i := (0 : Int).toNat) (j := (x1.1 : Int).toNat) Tryd.underlying76 size80 rfl (SL.of_R hp0) CutAt.none (CutAt.int rfl (Int.le_trans (subl_out hx2).1 (subl_out hx2).2.1)) (subl_ij hx2) (by rw [List.length_map]; exact subl_j hx2) rfl ?_
   intro vx2 hcx2
   rw [← List.map_drop, ← List.map_take, ← (subl_out hx2).2.2.2] at hcx2
   have hcx2 := R.of_SL hcx2
   refine rt_cont hA9 ?_
   refine rt_act rfl rfl ?_
   have hA10 := Step.r0 (KN s1.n) s3
   refine k_cut_sl (i := (i64 (x1.1 + 1) : Int).toNat) (j := ((a0.length : Int) : Int).toNat) Tryd.underlying76 size80 rfl (SL.of_R hp0) (CutAt.int rfl (subl_out hx3).1) (CutAt.len (by rw [List.length_map]; rfl)) (subl_ij hx3) (by rw [List.length_map]; exact subl_j hx3) rfl ?_
   intro vx3 hcx3
   rw [← List.map_drop, ← List.map_take, ← (subl_out hx3).2.2.2] at hcx3
   have hcx3 := R.of_SL hcx3
   refine rt_cont hA10 ?_
   refine rt_fin ?_
   refine k_bslice2 (ds := ([x2, x3] : List (List DiskFile)).map (dL 2 dDiskFile)) slc59 rfl (RVs.cons hcx2 (RVs.cons hcx3 RVs.nil)) (by rfl) (by rfl) rfl rfl ?_
   intro s11 v11 b11 st11 ge11 bl11 h11
   have szs11 := st11.size
   have hS := hS.trans0 st11
   have lt11 := Own.le1 h11
   obtain ⟨x4, hx4, h⟩ := ob h
   refine k_call cal106 rfl (slices_Concat_disk_picture_disk_file_w  (h11.sl) hx4) rfl ?_
   rintro s12 v12_0 st12 ⟨_, rfl, h12_0⟩
   have szs12 := st12.size
   have hS := hS.trans0 st12
   refine k_assign rfl rfl ?_
   refine k_nil ?_
   refine k_keep [(4, _)] ⟨rfl, trivial⟩ ?_
   refine k_ret ?_
   obtain rfl := Option.some.inj h
   refine ⟨_, rfl, Ret.mk hS ?_⟩
   exact ⟨_, rfl, h12_0⟩
  ·
   refine rt_act rfl rfl ?_
   have hA13 := Step.r0 (KN s1.n) s3
   refine k_cut_sl (i := (i64 (x1.1 + 1) : Int).toNat) (j := ((a0.length : Int) : Int).toNat) Tryd.underlying76 size80 rfl (SL.of_R hp0) (CutAt.int rfl (subl_out hx3).1) (CutAt.len (by rw [List.length_map]; rfl)) (subl_ij hx3) (by rw [List.length_map]; exact subl_j hx3) rfl ?_
   intro vx3 hcx3
   rw [← List.map_drop, ← List.map_take, ← (subl_out hx3).2.2.2] at hcx3
   have hcx3 := R.of_SL hcx3
   refine rt_cont hA13 ?_
   refine rt_act rfl rfl ?_
   have hA14 := Step.r0 (KN s1.n) s3
   refine k_cut_sl (i := (0 : Int).toNat) (j := (x1.1 : Int).toNat) Tryd.underlying76 size80 rfl (SL.of_R hp0) CutAt.none (CutAt.int rfl (Int.le_trans (subl_out hx2).1 (subl_out hx2).2.1)) (subl_ij hx2) (by rw [List.length_map]; exact subl_j hx2) rfl ?_
   intro vx2 hcx2
   rw [← List.map_drop, ← List.map_take, ← (subl_out hx2).2.2.2] at hcx2
   have hcx2 := R.of_SL hcx2
   refine rt_cont hA14 ?_
   refine rt_fin ?_
   refine k_bslice2 (ds := ([x2, x3] : List (List DiskFile)).map (dL 2 dDiskFile)) slc59 rfl (RVs.cons hcx2 (RVs.cons hcx3 RVs.nil)) (by rfl) (by rfl) rfl rfl ?_
   intro s15 v15 b15 st15 ge15 bl15 h15
   have szs15 := st15.size
   have hS := hS.trans0 st15
   have lt15 := Own.le1 h15
   obtain ⟨x5, hx5, h⟩ := ob h
   refine k_call cal106 rfl (slices_Concat_disk_picture_disk_file_w  (h15.sl) hx5) rfl ?_
   rintro s16 v16_0 st16 ⟨_, rfl, h16_0⟩
   have szs16 := st16.size
   have hS := hS.trans0 st16
   refine k_assign rfl rfl ?_
   refine k_nil ?_
   refine k_keep [(4, _)] ⟨rfl, trivial⟩ ?_
   refine k_ret ?_
   obtain rfl := Option.some.inj h
   refine ⟨_, rfl, Ret.mk hS ?_⟩
   exact ⟨_, rfl, h16_0⟩

set_option maxHeartbeats 1000000 in
set_option maxRecDepth 100000 in
theorem disk_picture_with_w {s : St} {v0 : Value} {a0 : (List DiskFile)} {a1 : (List UInt8)} {v2 : Value} {a2 : (List UInt8)} {r : (List DiskFile)} (hp0 : R s v0 (.sl 2 (a0.map dDiskFile))) (hp2 : R s v2 (.sl 1 (a2.map bD))) (h : disk_picture_with a0 a1 a2 = some r) : Calls Tryd.prog 104 #[v0, S a1, v2] s.w (Ret s K0 (fun s1 v => ∃ (u0 : Value), v = u0 ∧ R s1 u0 (.sl 2 (r.map dDiskFile)))) := by
 unfold disk_picture_with at h
 have hS := Step.r0 K0 s
 refine k_fn (rs := [6]) (args := [v0, S a1, v2]) Tryd.func104 rfl rfl rfl rfl ?_
 refine k_seq ?_
 refine k_region ?_
 refine k_assign rfl rfl ?_
 refine k_nil ?_
 refine k_seq ?_
 refine k_region ?_
 refine k_move rfl rfl ?_
 refine k_move rfl rfl ?_
 obtain ⟨x1, hx1, h⟩ := ob h
 refine k_call cal105 rfl (disk_picture_without_w  (show R s v0 (.sl 2 (a0.map dDiskFile)) from hp0) hx1) rfl ?_
 rintro s1 v1_0 st1 ⟨_, rfl, h1_0⟩
 have szs1 := st1.size
 have hS := hS.trans0 st1
 replace hp2 := hp2.up2 st1
 refine k_assign rfl rfl ?_
 refine k_nil ?_
 refine k_keep [(0, _), (1, _), (2, _), (6, _)] ⟨rfl, rfl, rfl, rfl, trivial⟩ ?_
 refine k_seq ?_
 refine k_region ?_
 refine k_move rfl rfl ?_
 refine k_move rfl rfl ?_
 obtain ⟨x2, hx2, h⟩ := ob h
 refine k_call cal51 rfl (disk_picture_find_w  (SL.of_R h1_0) hx2) rfl ?_
 rintro s2 vr2 st2 rfl
 have szs2 := st2.size
 have hS := hS.trans0 st2
 replace h1_0 := h1_0.up2 st2
 replace hp2 := hp2.up2 st2
 refine k_move rfl rfl ?_
 refine k_extract rfl rfl rfl ?_
 refine k_extract rfl rfl rfl ?_
 refine k_assign rfl rfl ?_
 refine k_assign rfl rfl ?_
 refine k_nil ?_
 refine k_keep [(0, _), (1, _), (2, _), (6, _), (7, _)] ⟨rfl, rfl, rfl, rfl, rfl, trivial⟩ ?_
 refine k_seq ?_
 obtain ⟨x3, hx3, h⟩ := ob h
 obtain ⟨x4, hx4, h⟩ := ob h
 refine k_drawT (KN s2.n) 10 (.read 0 (.read 1 (.read 3 (.read 4 (.read 5 (.read 7 (.read 8 (.alt 2 (.alt 6 (.alt 9 .fin .no) (.alt 9 (.alt 6 .fin .no) .no)) (.alt 6 (.alt 2 (.alt 9 .fin .no) (.alt 9 (.alt 2 .fin .no) .no)) (.alt 9 (.alt 2 (.alt 6 .fin .no) (.alt 6 (.alt 2 .fin .no) .no)) .no)))))))))) mixed (by intro c h; (try simp only [KC, KO, KU, KN, KB] at h) <;> omega) rfl rfl rfl ?_
 intro s3 st3
 have szs3 := st3.size
 have hS := hS.trans0 st3
 replace h1_0 := h1_0.up2 st3
 replace hp2 := hp2.up2 st3
 refine rt_read (v1_0) rfl rfl (fun s4 st4 => ?_) ?_
 ·refine k_move rfl rfl ?_
  exact fq_end
 refine rt_read (.int .i64 x2.1) rfl rfl (fun s5 st5 => ?_) ?_
 ·refine k_move rfl rfl ?_
  exact fq_end
 refine rt_read (S a1) rfl rfl (fun s6 st6 => ?_) ?_
 ·refine k_move rfl rfl ?_
  exact fq_end
 refine rt_read (v2) rfl rfl (fun s7 st7 => ?_) ?_
 ·refine k_move rfl rfl ?_
  exact fq_end
 refine rt_read (.agg #[S a1, v2]) rfl rfl (fun s8 st8 => ?_) ?_
 ·try replace hp2 := hp2.up2 st8
  refine k_build plc80 zero80 rfl (Parts.cons (CellsOf.lit rfl rfl).1 (Parts.cons (CellsOf.sl (SL.of_R hp2)).1 Parts.nil)) (by rfl) rfl ?_
  refine k_as (v := .agg #[S a1, v2]) rfl ?_
  exact fq_end
 refine rt_read (v1_0) rfl rfl (fun s9 st9 => ?_) ?_
 ·refine k_move rfl rfl ?_
  exact fq_end
 refine rt_read (.int .i64 x2.1) rfl rfl (fun s10 st10 => ?_) ?_
 ·refine k_move rfl rfl ?_
  exact fq_end
 refine rt_alt rfl rfl ?_ ?_
 ·
  have hA11 := Step.r0 (KN s2.n) s3
  refine k_cut_sl (i := (0 : Int).toNat) (j := (x2.1 : Int).toNat) Tryd.underlying76 size80 rfl (SL.of_R h1_0) CutAt.none (CutAt.int rfl (Int.le_trans (subl_out hx3).1 (subl_out hx3).2.1)) (subl_ij hx3) (by rw [List.length_map]; exact subl_j hx3) rfl ?_
  intro vx3 hcx3
  rw [← List.map_drop, ← List.map_take, ← (subl_out hx3).2.2.2] at hcx3
  have hcx3 := R.of_SL hcx3
  refine rt_cont hA11 ?_
  refine rt_alt rfl rfl ?_ ?_
  ·
   have hA12 := Step.r0 (KN s2.n) s3
   refine k_bslice2 (ds := ([(⟨a1, a2⟩ : DiskFile)] : List DiskFile).map dDiskFile) slc76 rfl (RVs.cons ⟨_, rfl, (clsDiskFile (⟨a1, a2⟩ : DiskFile) hp2)⟩ RVs.nil) (by rfl) (by rfl) rfl rfl ?_
   intro s13 v13 b13 st13 ge13 bl13 h13
   have szs13 := st13.size
   have hS := hS.trans0 st13
   have hA12 := hA12.trans0 st13
   replace h1_0 := h1_0.up2 st13
   replace hcx3 := hcx3.up2 st13
   have lt13 := Own.le1 h13
   refine rt_cont hA12 ?_
   refine rt_act rfl rfl ?_
   have hA14 := Step.r0 (KN s2.n) s13
   refine k_cut_sl (i := (x2.1 : Int).toNat) (j := ((x1.length : Int) : Int).toNat) Tryd.underlying76 size80 rfl (SL.of_R h1_0) (CutAt.int rfl (subl_out hx4).1) (CutAt.len (by rw [List.length_map]; rfl)) (subl_ij hx4) (by rw [List.length_map]; exact subl_j hx4) rfl ?_
   intro vx4 hcx4
   rw [← List.map_drop, ← List.map_take, ← (subl_out hx4).2.2.2] at hcx4
   have hcx4 := R.of_SL hcx4
   refine rt_cont hA14 ?_
   refine rt_fin ?_
   obtain ⟨s15, e15, st15, h15⟩ := h13.freeze
   rw [← e15]
   have szs15 := st15.size
   have hS := hS.c0 st15
   replace hcx3 := hcx3.up2 st15
   replace hcx4 := hcx4.up2 st15
   refine k_bslice2 (ds := ([x3, ([(⟨a1, a2⟩ : DiskFile)] : List DiskFile), x4] : List (List DiskFile)).map (dL 2 dDiskFile)) slc59 rfl (RVs.cons hcx3 (RVs.cons h15 (RVs.cons hcx4 RVs.nil))) (by rfl) (by rfl) rfl rfl ?_
   intro s16 v16 b16 st16 ge16 bl16 h16
   have szs16 := st16.size
   have hS := hS.trans0 st16
   have lt16 := Own.le1 h16
   obtain ⟨x5, hx5, h⟩ := ob h
   refine k_call cal106 rfl (slices_Concat_disk_picture_disk_file_w  (h16.sl) hx5) rfl ?_
   rintro s17 v17_0 st17 ⟨_, rfl, h17_0⟩
   have szs17 := st17.size
   have hS := hS.trans0 st17
   refine k_assign rfl rfl ?_
   refine k_nil ?_
   refine k_keep [(6, _)] ⟨rfl, trivial⟩ ?_
   refine k_ret ?_
   obtain rfl := Option.some.inj h
   refine ⟨_, rfl, Ret.mk hS ?_⟩
   exact ⟨_, rfl, h17_0⟩
  ·
   refine rt_act rfl rfl ?_
   have hA18 := Step.r0 (KN s2.n) s3
   refine k_cut_sl (i := (x2.1 : Int).toNat) (j := ((x1.length : Int) : Int).toNat) Tryd.underlying76 size80 rfl (SL.of_R h1_0) (CutAt.int rfl (subl_out hx4).1) (CutAt.len (by rw [List.length_map]; rfl)) (subl_ij hx4) (by rw [List.length_map]; exact subl_j hx4) rfl ?_
   intro vx4 hcx4
   rw [← List.map_drop, ← List.map_take, ← (subl_out hx4).2.2.2] at hcx4
   have hcx4 := R.of_SL hcx4
   refine rt_cont hA18 ?_
   refine rt_act rfl rfl ?_
   have hA19 := Step.r0 (KN s2.n) s3
   refine k_bslice2 (ds := ([(⟨a1, a2⟩ : DiskFile)] : List DiskFile).map dDiskFile) slc76 rfl (RVs.cons ⟨_, rfl, (clsDiskFile (⟨a1, a2⟩ : DiskFile) hp2)⟩ RVs.nil) (by rfl) (by rfl) rfl rfl ?_
   intro s20 v20 b20 st20 ge20 bl20 h20
   have szs20 := st20.size
   have hS := hS.trans0 st20
   have hA19 := hA19.trans0 st20
   replace hcx3 := hcx3.up2 st20
   replace hcx4 := hcx4.up2 st20
   have lt20 := Own.le1 h20
   refine rt_cont hA19 ?_
   refine rt_fin ?_
   obtain ⟨s21, e21, st21, h21⟩ := h20.freeze
   rw [← e21]
   have szs21 := st21.size
   have hS := hS.c0 st21
   replace hcx3 := hcx3.up2 st21
   replace hcx4 := hcx4.up2 st21
   refine k_bslice2 (ds := ([x3, ([(⟨a1, a2⟩ : DiskFile)] : List DiskFile), x4] : List (List DiskFile)).map (dL 2 dDiskFile)) slc59 rfl (RVs.cons hcx3 (RVs.cons h21 (RVs.cons hcx4 RVs.nil))) (by rfl) (by rfl) rfl rfl ?_
   intro s22 v22 b22 st22 ge22 bl22 h22
   have szs22 := st22.size
   have hS := hS.trans0 st22
   have lt22 := Own.le1 h22
   obtain ⟨x6, hx6, h⟩ := ob h
   refine k_call cal106 rfl (slices_Concat_disk_picture_disk_file_w  (h22.sl) hx6) rfl ?_
   rintro s23 v23_0 st23 ⟨_, rfl, h23_0⟩
   have szs23 := st23.size
   have hS := hS.trans0 st23
   refine k_assign rfl rfl ?_
   refine k_nil ?_
   refine k_keep [(6, _)] ⟨rfl, trivial⟩ ?_
   refine k_ret ?_
   obtain rfl := Option.some.inj h
   refine ⟨_, rfl, Ret.mk hS ?_⟩
   exact ⟨_, rfl, h23_0⟩
 ·
  refine rt_alt rfl rfl ?_ ?_
  ·
   have hA24 := Step.r0 (KN s2.n) s3
   refine k_bslice2 (ds := ([(⟨a1, a2⟩ : DiskFile)] : List DiskFile).map dDiskFile) slc76 rfl (RVs.cons ⟨_, rfl, (clsDiskFile (⟨a1, a2⟩ : DiskFile) hp2)⟩ RVs.nil) (by rfl) (by rfl) rfl rfl ?_
   intro s25 v25 b25 st25 ge25 bl25 h25
   have szs25 := st25.size
   have hS := hS.trans0 st25
   have hA24 := hA24.trans0 st25
   replace h1_0 := h1_0.up2 st25
   have lt25 := Own.le1 h25
   refine rt_cont hA24 ?_
   refine rt_alt rfl rfl ?_ ?_
   ·
    have hA26 := Step.r0 (KN s2.n) s25
    refine k_cut_sl (i := (0 : Int).toNat) (j := (x2.1 : Int).toNat) Tryd.underlying76 size80 rfl (SL.of_R h1_0) CutAt.none (CutAt.int rfl (Int.le_trans (subl_out hx3).1 (subl_out hx3).2.1)) (subl_ij hx3) (by rw [List.length_map]; exact subl_j hx3) rfl ?_
    intro vx3 hcx3
    rw [← List.map_drop, ← List.map_take, ← (subl_out hx3).2.2.2] at hcx3
    have hcx3 := R.of_SL hcx3
    refine rt_cont hA26 ?_
    refine rt_act rfl rfl ?_
    have hA27 := Step.r0 (KN s2.n) s25
    refine k_cut_sl (i := (x2.1 : Int).toNat) (j := ((x1.length : Int) : Int).toNat) Tryd.underlying76 size80 rfl (SL.of_R h1_0) (CutAt.int rfl (subl_out hx4).1) (CutAt.len (by rw [List.length_map]; rfl)) (subl_ij hx4) (by rw [List.length_map]; exact subl_j hx4) rfl ?_
    intro vx4 hcx4
    rw [← List.map_drop, ← List.map_take, ← (subl_out hx4).2.2.2] at hcx4
    have hcx4 := R.of_SL hcx4
    refine rt_cont hA27 ?_
    refine rt_fin ?_
    obtain ⟨s28, e28, st28, h28⟩ := h25.freeze
    rw [← e28]
    have szs28 := st28.size
    have hS := hS.c0 st28
    replace hcx3 := hcx3.up2 st28
    replace hcx4 := hcx4.up2 st28
    refine k_bslice2 (ds := ([x3, ([(⟨a1, a2⟩ : DiskFile)] : List DiskFile), x4] : List (List DiskFile)).map (dL 2 dDiskFile)) slc59 rfl (RVs.cons hcx3 (RVs.cons h28 (RVs.cons hcx4 RVs.nil))) (by rfl) (by rfl) rfl rfl ?_
    intro s29 v29 b29 st29 ge29 bl29 h29
    have szs29 := st29.size
    have hS := hS.trans0 st29
    have lt29 := Own.le1 h29
    obtain ⟨x7, hx7, h⟩ := ob h
    refine k_call cal106 rfl (slices_Concat_disk_picture_disk_file_w  (h29.sl) hx7) rfl ?_
    rintro s30 v30_0 st30 ⟨_, rfl, h30_0⟩
    have szs30 := st30.size
    have hS := hS.trans0 st30
    refine k_assign rfl rfl ?_
    refine k_nil ?_
    refine k_keep [(6, _)] ⟨rfl, trivial⟩ ?_
    refine k_ret ?_
    obtain rfl := Option.some.inj h
    refine ⟨_, rfl, Ret.mk hS ?_⟩
    exact ⟨_, rfl, h30_0⟩
   ·
    refine rt_act rfl rfl ?_
    have hA31 := Step.r0 (KN s2.n) s25
    refine k_cut_sl (i := (x2.1 : Int).toNat) (j := ((x1.length : Int) : Int).toNat) Tryd.underlying76 size80 rfl (SL.of_R h1_0) (CutAt.int rfl (subl_out hx4).1) (CutAt.len (by rw [List.length_map]; rfl)) (subl_ij hx4) (by rw [List.length_map]; exact subl_j hx4) rfl ?_
    intro vx4 hcx4
    rw [← List.map_drop, ← List.map_take, ← (subl_out hx4).2.2.2] at hcx4
    have hcx4 := R.of_SL hcx4
    refine rt_cont hA31 ?_
    refine rt_act rfl rfl ?_
    have hA32 := Step.r0 (KN s2.n) s25
    refine k_cut_sl (i := (0 : Int).toNat) (j := (x2.1 : Int).toNat) Tryd.underlying76 size80 rfl (SL.of_R h1_0) CutAt.none (CutAt.int rfl (Int.le_trans (subl_out hx3).1 (subl_out hx3).2.1)) (subl_ij hx3) (by rw [List.length_map]; exact subl_j hx3) rfl ?_
    intro vx3 hcx3
    rw [← List.map_drop, ← List.map_take, ← (subl_out hx3).2.2.2] at hcx3
    have hcx3 := R.of_SL hcx3
    refine rt_cont hA32 ?_
    refine rt_fin ?_
    obtain ⟨s33, e33, st33, h33⟩ := h25.freeze
    rw [← e33]
    have szs33 := st33.size
    have hS := hS.c0 st33
    replace hcx4 := hcx4.up2 st33
    replace hcx3 := hcx3.up2 st33
    refine k_bslice2 (ds := ([x3, ([(⟨a1, a2⟩ : DiskFile)] : List DiskFile), x4] : List (List DiskFile)).map (dL 2 dDiskFile)) slc59 rfl (RVs.cons hcx3 (RVs.cons h33 (RVs.cons hcx4 RVs.nil))) (by rfl) (by rfl) rfl rfl ?_
    intro s34 v34 b34 st34 ge34 bl34 h34
    have szs34 := st34.size
    have hS := hS.trans0 st34
    have lt34 := Own.le1 h34
    obtain ⟨x8, hx8, h⟩ := ob h
    refine k_call cal106 rfl (slices_Concat_disk_picture_disk_file_w  (h34.sl) hx8) rfl ?_
    rintro s35 v35_0 st35 ⟨_, rfl, h35_0⟩
    have szs35 := st35.size
    have hS := hS.trans0 st35
    refine k_assign rfl rfl ?_
    refine k_nil ?_
    refine k_keep [(6, _)] ⟨rfl, trivial⟩ ?_
    refine k_ret ?_
    obtain rfl := Option.some.inj h
    refine ⟨_, rfl, Ret.mk hS ?_⟩
    exact ⟨_, rfl, h35_0⟩
  ·
   refine rt_act rfl rfl ?_
   have hA36 := Step.r0 (KN s2.n) s3
   refine k_cut_sl (i := (x2.1 : Int).toNat) (j := ((x1.length : Int) : Int).toNat) Tryd.underlying76 size80 rfl (SL.of_R h1_0) (CutAt.int rfl (subl_out hx4).1) (CutAt.len (by rw [List.length_map]; rfl)) (subl_ij hx4) (by rw [List.length_map]; exact subl_j hx4) rfl ?_
   intro vx4 hcx4
   rw [← List.map_drop, ← List.map_take, ← (subl_out hx4).2.2.2] at hcx4
   have hcx4 := R.of_SL hcx4
   refine rt_cont hA36 ?_
   refine rt_alt rfl rfl ?_ ?_
   ·
    have hA37 := Step.r0 (KN s2.n) s3
    refine k_cut_sl (i := (0 : Int).toNat) (j := (x2.1 : Int).toNat) Tryd.underlying76 size80 rfl (SL.of_R h1_0) CutAt.none (CutAt.int rfl (Int.le_trans (subl_out hx3).1 (subl_out hx3).2.1)) (subl_ij hx3) (by rw [List.length_map]; exact subl_j hx3) rfl ?_
    intro vx3 hcx3
    rw [← List.map_drop, ← List.map_take, ← (subl_out hx3).2.2.2] at hcx3
    have hcx3 := R.of_SL hcx3
    refine rt_cont hA37 ?_
    refine rt_act rfl rfl ?_
    have hA38 := Step.r0 (KN s2.n) s3
    refine k_bslice2 (ds := ([(⟨a1, a2⟩ : DiskFile)] : List DiskFile).map dDiskFile) slc76 rfl (RVs.cons ⟨_, rfl, (clsDiskFile (⟨a1, a2⟩ : DiskFile) hp2)⟩ RVs.nil) (by rfl) (by rfl) rfl rfl ?_
    intro s39 v39 b39 st39 ge39 bl39 h39
    have szs39 := st39.size
    have hS := hS.trans0 st39
    have hA38 := hA38.trans0 st39
    replace hcx4 := hcx4.up2 st39
    replace hcx3 := hcx3.up2 st39
    have lt39 := Own.le1 h39
    refine rt_cont hA38 ?_
    refine rt_fin ?_
    obtain ⟨s40, e40, st40, h40⟩ := h39.freeze
    rw [← e40]
    have szs40 := st40.size
    have hS := hS.c0 st40
    replace hcx4 := hcx4.up2 st40
    replace hcx3 := hcx3.up2 st40
    refine k_bslice2 (ds := ([x3, ([(⟨a1, a2⟩ : DiskFile)] : List DiskFile), x4] : List (List DiskFile)).map (dL 2 dDiskFile)) slc59 rfl (RVs.cons hcx3 (RVs.cons h40 (RVs.cons hcx4 RVs.nil))) (by rfl) (by rfl) rfl rfl ?_
    intro s41 v41 b41 st41 ge41 bl41 h41
    have szs41 := st41.size
    have hS := hS.trans0 st41
    have lt41 := Own.le1 h41
    obtain ⟨x9, hx9, h⟩ := ob h
    refine k_call cal106 rfl (slices_Concat_disk_picture_disk_file_w  (h41.sl) hx9) rfl ?_
    rintro s42 v42_0 st42 ⟨_, rfl, h42_0⟩
    have szs42 := st42.size
    have hS := hS.trans0 st42
    refine k_assign rfl rfl ?_
    refine k_nil ?_
    refine k_keep [(6, _)] ⟨rfl, trivial⟩ ?_
    refine k_ret ?_
    obtain rfl := Option.some.inj h
    refine ⟨_, rfl, Ret.mk hS ?_⟩
    exact ⟨_, rfl, h42_0⟩
   ·
    refine rt_act rfl rfl ?_
    have hA43 := Step.r0 (KN s2.n) s3
    refine k_bslice2 (ds := ([(⟨a1, a2⟩ : DiskFile)] : List DiskFile).map dDiskFile) slc76 rfl (RVs.cons ⟨_, rfl, (clsDiskFile (⟨a1, a2⟩ : DiskFile) hp2)⟩ RVs.nil) (by rfl) (by rfl) rfl rfl ?_
    intro s44 v44 b44 st44 ge44 bl44 h44
    have szs44 := st44.size
    have hS := hS.trans0 st44
    have hA43 := hA43.trans0 st44
    replace h1_0 := h1_0.up2 st44
    replace hcx4 := hcx4.up2 st44
    have lt44 := Own.le1 h44
    refine rt_cont hA43 ?_
    refine rt_act rfl rfl ?_
    have hA45 := Step.r0 (KN s2.n) s44
    refine k_cut_sl (i := (0 : Int).toNat) (j := (x2.1 : Int).toNat) Tryd.underlying76 size80 rfl (SL.of_R h1_0) CutAt.none (CutAt.int rfl (Int.le_trans (subl_out hx3).1 (subl_out hx3).2.1)) (subl_ij hx3) (by rw [List.length_map]; exact subl_j hx3) rfl ?_
    intro vx3 hcx3
    rw [← List.map_drop, ← List.map_take, ← (subl_out hx3).2.2.2] at hcx3
    have hcx3 := R.of_SL hcx3
    refine rt_cont hA45 ?_
    refine rt_fin ?_
    obtain ⟨s46, e46, st46, h46⟩ := h44.freeze
    rw [← e46]
    have szs46 := st46.size
    have hS := hS.c0 st46
    replace hcx4 := hcx4.up2 st46
    replace hcx3 := hcx3.up2 st46
    refine k_bslice2 (ds := ([x3, ([(⟨a1, a2⟩ : DiskFile)] : List DiskFile), x4] : List (List DiskFile)).map (dL 2 dDiskFile)) slc59 rfl (RVs.cons hcx3 (RVs.cons h46 (RVs.cons hcx4 RVs.nil))) (by rfl) (by rfl) rfl rfl ?_
    intro s47 v47 b47 st47 ge47 bl47 h47
    have szs47 := st47.size
    have hS := hS.trans0 st47
    have lt47 := Own.le1 h47
    obtain ⟨x10, hx10, h⟩ := ob h
    refine k_call cal106 rfl (slices_Concat_disk_picture_disk_file_w  (h47.sl) hx10) rfl ?_
    rintro s48 v48_0 st48 ⟨_, rfl, h48_0⟩
    have szs48 := st48.size
    have hS := hS.trans0 st48
    refine k_assign rfl rfl ?_
    refine k_nil ?_
    refine k_keep [(6, _)] ⟨rfl, trivial⟩ ?_
    refine k_ret ?_
    obtain rfl := Option.some.inj h
    refine ⟨_, rfl, Ret.mk hS ?_⟩
    exact ⟨_, rfl, h48_0⟩

set_option maxHeartbeats 1000000 in
set_option maxRecDepth 100000 in
theorem disk_adding_next_w {s : St} {cs0 : List Value} {a0 : DiskAdding} {v1 : Value} {a1 : (List DiskFile)} {r : (List DiskFile)} (hp0 : RC s cs0 (dDiskAdding a0)) (hp1 : R s v1 (.sl 2 (a1.map dDiskFile))) (h : disk_adding_next a0 a1 = some r) : Calls Tryd.prog 103 #[.agg cs0.toArray, v1] s.w (Ret s K0 (fun s1 v => ∃ (u0 : Value), v = u0 ∧ R s1 u0 (.sl 2 (r.map dDiskFile)))) := by
 unfold disk_adding_next at h
 obtain ⟨q0_0, rfl, hq0_0⟩ := opnDiskAdding hp0
 have hS := Step.r0 K0 s
 refine k_fn (rs := [4]) (args := [.agg #[S a0.file.name, q0_0], v1]) Tryd.func103 rfl rfl rfl rfl ?_
 refine k_seq ?_
 refine k_region ?_
 refine k_box rfl rfl ?_
 intro s1 b1 st1 h1 ge1
 have szs1 := st1.size
 have hS := hS.trans0 st1
 replace hq0_0 := hq0_0.up2 st1
 replace hp1 := hp1.up2 st1
 have lt1 := h1.lt
 refine k_assign rfl rfl ?_
 refine k_nil ?_
 refine k_keep [(1, _), (2, _), (4, _)] ⟨rfl, rfl, rfl, trivial⟩ ?_
 refine k_seq ?_
 refine k_drawT (KN s1.n) 14 (.read 0 (.read 1 (.read 2 (.read 3 (.read 4 (.read 5 (.read 6 (.read 7 (.read 9 (.read 10 (.read 11 (.alt 8 (.alt 12 (.alt 13 .fin .no) .no) .no)))))))))))) mixed (by intro c h; (try simp only [KC, KO, KU, KN, KB] at h) <;> omega) rfl rfl rfl ?_
 intro s2 st2
 have szs2 := st2.size
 have hS := hS.trans0 st2
 replace hp1 := hp1.up2 st2
 replace hq0_0 := hq0_0.up2 st2
 replace h1 := h1.up2 st2
 refine rt_read (v1) rfl rfl (fun s3 st3 => ?_) ?_
 ·refine k_move rfl rfl ?_
  exact fq_end
 refine rt_read (.pointer (some ⟨b1, 0, none⟩)) rfl rfl (fun s4 st4 => ?_) ?_
 ·refine k_field_addr fld82_0 rfl rfl ?_
  exact fq_end
 refine rt_read (.pointer (some ⟨b1, 0, none⟩)) rfl rfl (fun s5 st5 => ?_) ?_
 ·refine k_field_addr fld80_0 rfl rfl ?_
  exact fq_end
 refine rt_read (S a0.file.name) rfl rfl (fun s6 st6 => ?_) ?_
 ·try replace h1 := h1.up2 st6
  refine k_load_blk one9 rfl h1 rfl rfl ?_
  exact fq_end
 refine rt_read (v1) rfl rfl (fun s7 st7 => ?_) ?_
 ·refine k_move rfl rfl ?_
  exact fq_end
 refine rt_read (.pointer (some ⟨b1, 0, none⟩)) rfl rfl (fun s8 st8 => ?_) ?_
 ·refine k_field_addr fld82_0 rfl rfl ?_
  exact fq_end
 refine rt_read (.pointer (some ⟨b1, 0, none⟩)) rfl rfl (fun s9 st9 => ?_) ?_
 ·refine k_field_addr fld80_0 rfl rfl ?_
  exact fq_end
 refine rt_read (S a0.file.name) rfl rfl (fun s10 st10 => ?_) ?_
 ·try replace h1 := h1.up2 st10
  refine k_load_blk one9 rfl h1 rfl rfl ?_
  exact fq_end
 refine rt_read (.pointer (some ⟨b1, 0, none⟩)) rfl rfl (fun s11 st11 => ?_) ?_
 ·refine k_field_addr fld82_0 rfl rfl ?_
  exact fq_end
 refine rt_read (.pointer (some ⟨b1, 1, none⟩)) rfl rfl (fun s12 st12 => ?_) ?_
 ·refine k_field_addr fld80_1 rfl rfl ?_
  exact fq_end
 refine rt_read (q0_0) rfl rfl (fun s13 st13 => ?_) ?_
 ·try replace h1 := h1.up2 st13
  refine k_load_blk one33 rfl h1 rfl rfl ?_
  exact fq_end
 refine rt_act rfl rfl ?_
 have hA14 := Step.r0 (KN s1.n) s2
 obtain ⟨x1, hx1, h⟩ := ob h
 refine k_call cal39 rfl (disk_picture_bytes_w  (SL.of_R hp1) hx1) rfl ?_
 rintro s15 v15_0 st15 ⟨_, rfl, h15_0⟩
 have szs15 := st15.size
 have hS := hS.trans0 st15
 have hA14 := hA14.trans0 st15
 replace hp1 := hp1.up2 st15
 replace hq0_0 := hq0_0.up2 st15
 refine rt_cont hA14 ?_
 refine rt_act rfl rfl ?_
 have hA16 := Step.r0 (KN s1.n) s15
 refine k_bslice2 (ds := ([x1, a0.file.b] : List (List UInt8)).map (dL 1 bD)) slc32 rfl (RVs.cons h15_0 (RVs.cons hq0_0 RVs.nil)) (by rfl) (by rfl) rfl rfl ?_
 intro s17 v17 b17 st17 ge17 bl17 h17
 have szs17 := st17.size
 have hS := hS.trans0 st17
 have hA16 := hA16.trans0 st17
 replace hp1 := hp1.up2 st17
 have lt17 := Own.le1 h17
 refine rt_cont hA16 ?_
 refine rt_act rfl rfl ?_
 have hA18 := Step.r0 (KN s1.n) s17
 obtain ⟨x2, hx2, h⟩ := ob h
 refine k_call cal48 rfl (slices_Concat_byte_byte_w  (h17.sl) hx2) rfl ?_
 rintro s19 v19_0 st19 ⟨_, rfl, h19_0⟩
 have szs19 := st19.size
 have hS := hS.trans0 st19
 have hA18 := hA18.trans0 st19
 replace hp1 := hp1.up2 st19
 refine rt_cont hA18 ?_
 refine rt_fin ?_
 obtain ⟨x3, hx3, h⟩ := ob h
 refine k_call cal104 rfl (disk_picture_with_w  (show R s19 v1 (.sl 2 (a1.map dDiskFile)) from hp1) (show R s19 v19_0 (.sl 1 (x2.map bD)) from h19_0) hx3) rfl ?_
 rintro s20 v20_0 st20 ⟨_, rfl, h20_0⟩
 have szs20 := st20.size
 have hS := hS.trans0 st20
 refine k_assign rfl rfl ?_
 refine k_nil ?_
 refine k_keep [(4, _)] ⟨rfl, trivial⟩ ?_
 refine k_ret ?_
 obtain rfl := Option.some.inj h
 refine ⟨_, rfl, Ret.mk hS ?_⟩
 exact ⟨_, rfl, h20_0⟩

set_option maxHeartbeats 1000000 in
set_option maxRecDepth 100000 in
theorem disk_putting_next_w {s : St} {cs0 : List Value} {a0 : DiskPutting} {v1 : Value} {a1 : (List DiskFile)} {r : (List DiskFile)} (hp0 : RC s cs0 (dDiskPutting a0)) (hp1 : R s v1 (.sl 2 (a1.map dDiskFile))) (h : disk_putting_next a0 a1 = some r) : Calls Tryd.prog 108 #[.agg cs0.toArray, v1] s.w (Ret s K0 (fun s1 v => ∃ (u0 : Value), v = u0 ∧ R s1 u0 (.sl 2 (r.map dDiskFile)))) := by
 unfold disk_putting_next at h
 obtain ⟨q0_0, rfl, hq0_0⟩ := opnDiskPutting hp0
 have hS := Step.r0 K0 s
 refine k_fn (rs := [4]) (args := [.agg #[S a0.file.name, q0_0], v1]) Tryd.func108 rfl rfl rfl rfl ?_
 refine k_seq ?_
 refine k_region ?_
 refine k_box rfl rfl ?_
 intro s1 b1 st1 h1 ge1
 have szs1 := st1.size
 have hS := hS.trans0 st1
 replace hq0_0 := hq0_0.up2 st1
 replace hp1 := hp1.up2 st1
 have lt1 := h1.lt
 refine k_assign rfl rfl ?_
 refine k_nil ?_
 refine k_keep [(1, _), (2, _), (4, _)] ⟨rfl, rfl, rfl, trivial⟩ ?_
 refine k_seq ?_
 refine k_region ?_
 refine k_move rfl rfl ?_
 refine k_field_addr fld94_0 rfl rfl ?_
 refine k_field_addr fld80_0 rfl rfl ?_
 refine k_load_blk one9 rfl h1 rfl rfl ?_
 refine k_field_addr fld94_0 rfl rfl ?_
 refine k_field_addr fld80_1 rfl rfl ?_
 refine k_load_blk one33 rfl h1 rfl rfl ?_
 obtain ⟨x1, hx1, h⟩ := ob h
 refine k_call cal104 rfl (disk_picture_with_w  (show R s1 v1 (.sl 2 (a1.map dDiskFile)) from hp1) (show R s1 q0_0 (.sl 1 (a0.file.b.map bD)) from hq0_0) hx1) rfl ?_
 rintro s2 v2_0 st2 ⟨_, rfl, h2_0⟩
 have szs2 := st2.size
 have hS := hS.trans0 st2
 refine k_assign rfl rfl ?_
 refine k_nil ?_
 refine k_keep [(4, _)] ⟨rfl, trivial⟩ ?_
 refine k_ret ?_
 obtain rfl := Option.some.inj h
 refine ⟨_, rfl, Ret.mk hS ?_⟩
 exact ⟨_, rfl, h2_0⟩

set_option maxHeartbeats 1000000 in
theorem DiskCall_next_w {s : St} {v0 : Value} {c : DiskCall} {a1 : (List DiskFile)} {v1 : Value} {r : (List DiskFile)} (hv : R s v0 (dDiskCall c)) (hp1 : R s v1 ((dL 2 dDiskFile) a1)) (h : DiskCall_next c a1 = some r) : Invokes Tryd.prog v0 "tidewrack/disk.next" [v1] s.w (Ret s K0 (fun s1 v => ∃ (u0 : Value), v = u0 ∧ R s1 u0 (.sl 2 (r.map dDiskFile)))) := by
 cases c with
 | adding x =>
  obtain ⟨u, rfl, hu⟩ := R.ifc_inv (t := 82) (d := dDiskAdding x) hv
  obtain ⟨⟨cs⟩, rfl, hu⟩ := hu
  dsimp only at hu
  exact ⟨82, _, 103, rfl, meth82_next, cal103, disk_adding_next_w hu hp1 h⟩
 | putting x =>
  obtain ⟨u, rfl, hu⟩ := R.ifc_inv (t := 94) (d := dDiskPutting x) hv
  obtain ⟨⟨cs⟩, rfl, hu⟩ := hu
  dsimp only at hu
  exact ⟨94, _, 108, rfl, meth94_next, cal108, disk_putting_next_w hu hp1 h⟩

set_option maxHeartbeats 1000000 in
set_option maxRecDepth 100000 in
theorem disk_New_w {s : St} {a0 : Int} {r : ((Option DiskDisk) × Int)}  (h : disk_New a0 = some r) : Calls Tryd.prog 6 #[.int .i64 a0] s.w (Ret s K0 (fun s1 v => ∃ (ku0 : Nat), ∃ (u0 : Value), v = .tuple #[u0, .int .i64 r.2] ∧ s.n < ku0 ∧ OptODiskDisk s1 ku0 u0 r.1)) := by
 unfold disk_New at h
 have hS := Step.r0 K0 s
 refine k_fn (rs := [2, 3]) (args := [.int .i64 a0]) Tryd.func6 rfl rfl rfl rfl ?_
 refine k_seq ?_
 refine k_region ?_
 refine k_assign rfl rfl ?_
 refine k_assign rfl rfl ?_
 refine k_nil ?_
 refine k_seq ?_
 refine k_seq ?_
 refine k_region ?_
 refine k_move rfl rfl ?_
 refine k_lss rfl rfl rfl ?_
 refine k_move rfl rfl ?_
 have hE1 := Step.r0 K0 s
 refine k_cutl (X := St) 3 [(0, .int .i64 a0), (2, .pointer none), (3, .int .i64 0), (4, .int .i64 a0), (5, .bool (decide (a0 < 0)))] (fun _ => [(9, .bool (decide ((a0 < 0) ∨ (65536 < a0))))]) (fun sl wL => sl.w = wL ∧ Step K0 s sl) ?_ ?_
 ·
  refine k_again 6 rfl ?_
  refine k_split (fun c2 => ?_) (fun c2 => ?_)
  ·
   refine k_no rfl rfl rfl rfl ?_
   refine k_no rfl rfl rfl rfl ?_
   refine k_pickT rfl rfl rfl rfl ?_
   exact k_met ⟨s, ⟨(congrArg (fun b => some (Value.bool b)) (by first | exact decide_eq_decide.2 ⟨Or.inr, fun h => h.resolve_left c2⟩ | exact (decide_eq_true (Or.inl c2)).symm | (simp [c2]; done) | exact dec_andT c2 | exact dec_andF c2 | exact dec_orF c2 | exact dec_orT c2 | (simp [c2, i64] <;> omega))), trivial⟩, ⟨rfl, rfl, rfl, rfl, rfl, trivial⟩, rfl, hE1⟩
  ·
   refine k_yes rfl rfl ?_
   refine k_move rfl rfl ?_
   refine k_yes rfl rfl ?_
   refine k_gtr rfl rfl rfl ?_
   refine k_pickF rfl rfl rfl rfl ?_
   exact k_met ⟨s, ⟨(congrArg (fun b => some (Value.bool b)) (by first | exact decide_eq_decide.2 ⟨Or.inr, fun h => h.resolve_left c2⟩ | exact (decide_eq_true (Or.inl c2)).symm | (simp [c2]; done) | exact dec_andT c2 | exact dec_andF c2 | exact dec_orF c2 | exact dec_orT c2 | (simp [c2, i64] <;> omega))), trivial⟩, ⟨rfl, rfl, rfl, rfl, rfl, trivial⟩, rfl, hE1⟩
 ·
  rintro s3 wL ⟨rfl, hE1⟩
  have szs3 := hE1.size
  have hS := hS.trans0 hE1
  refine k_nil ?_
  refine k_keep [(0, _), (2, _), (3, _), (9, _)] ⟨rfl, rfl, rfl, rfl, trivial⟩ ?_
  refine k_cond_dec rfl (fun c4 => ?_) (fun c4 => ?_)
  ·
   have h := itT h c4
   refine k_seq ?_
   refine k_region ?_
   refine k_assign rfl rfl ?_
   refine k_assign rfl rfl ?_
   refine k_nil ?_
   refine k_keep [(0, _), (2, _), (3, _)] ⟨rfl, rfl, rfl, trivial⟩ ?_
   refine k_ret ?_
   obtain rfl := Option.some.inj h
   refine ⟨_, rfl, Ret.mk hS ?_⟩
   exact ⟨s3.n + 1, _, rfl, by omega, rfl⟩
  ·
   have h := itF h c4
   refine k_skip ?_
   refine k_seq ?_
   refine k_region ?_
   refine k_move rfl rfl ?_
   refine k_bslice2 (ds := ([[]] : List (List DiskFile)).map (dL 2 dDiskFile)) slc59 rfl (RVs.cons (R.of_SL (.inl ⟨rfl, none, 0, rfl, fun _ => rfl⟩)) RVs.nil) (by rfl) (by rfl) rfl rfl ?_
   intro s5 v5 b5 st5 ge5 bl5 h5
   have szs5 := st5.size
   have hS := hS.trans0 st5
   have lt5 := Own.le1 h5
   refine k_build plc64 zero64 rfl (Parts.cons (CellsOf.lit rfl rfl).1 (Parts.cons (CellsOf.lit rfl rfl).1 (Parts.cons (CellsOf.sl (h5.sl)).1 Parts.nil))) (by rfl) rfl ?_
   refine k_as (v := .agg #[.int .i64 a0, .bool true, .bool false, v5, .slice none 0 0, .int .i64 0, .int .i64 0, .int .i64 0]) rfl ?_
   refine k_box rfl rfl ?_
   intro s6 b6 st6 h6 ge6
   have szs6 := st6.size
   have hS := hS.trans0 st6
   replace h5 := h5.up2 st6
   have lt6 := h6.lt
   refine k_assign rfl rfl ?_
   refine k_assign rfl rfl ?_
   refine k_nil ?_
   refine k_keep [(2, _), (3, _)] ⟨rfl, rfl, trivial⟩ ?_
   refine k_ret ?_
   obtain ⟨s7, e7, st7, h7⟩ := Own.relabelK (b5 + 1) 5 h5 (by first | omega | (dsimp only; omega)) (by first | omega | (dsimp only; omega)) (by first | omega | (dsimp only; omega))
   rw [← e7]
   have szs7 := st7.size
   have hS := hS.c0 st7
   replace h6 := h6.up2 st7
   obtain ⟨s8, e8, st8, h8⟩ := Blk.relabel b5 0 h6 (by first | omega | (dsimp only; omega)) (by omega)
   rw [← e8]
   have szs8 := st8.size
   have hS := hS.c0 st8
   replace h7 := h7.up2 st8
   obtain rfl := Option.some.inj h
   refine ⟨_, rfl, Ret.mk hS ?_⟩
   exact ⟨b5 + 1, _, rfl, by omega, (ODiskDisk.mk_ (⟨a0, true, false, ([[]] : List (List DiskFile)), [], (⟨0, 0, 0⟩ : DiskFuse)⟩ : DiskDisk) (by omega) h7 (Own.nil (by first | omega | (dsimp only; omega)) (by first | omega | (dsimp only; omega))) h8)⟩

set_option maxHeartbeats 1000000 in
set_option maxRecDepth 100000 in
theorem disk_Disk_none_w {s : St} {k0 : Nat} {p0 : Value} {a0 : DiskDisk} {r : Bool} (ho0 : ODiskDisk s k0 p0 a0) (h : disk_Disk_none a0 = some r) : Calls Tryd.prog 30 #[p0] s.w (Ret s K0 (fun s1 v => v = .bool r)) := by
 unfold disk_Disk_none at h
 have le0 := ho0.le
 have ne0 := ho0.ne
 obtain ⟨bo0, rfl⟩ := ho0.ptr
 obtain ⟨wo0_0, wo0_1, hb_o0, hwo0_0, hwo0_1⟩ := ho0.at_
 have hS := Step.r0 K0 s
 refine k_fn (rs := [2]) (args := [.pointer (some ⟨bo0, 0, none⟩)]) Tryd.func30 rfl rfl rfl rfl ?_
 refine k_seq ?_
 refine k_region ?_
 refine k_assign rfl rfl ?_
 refine k_nil ?_
 refine k_seq ?_
 refine k_region ?_
 refine k_move rfl rfl ?_
 refine k_eql_pnil Tryd.underlying23 rfl rfl rfl ?_
 refine k_move rfl rfl ?_
 refine k_yes rfl rfl ?_
 refine k_move rfl rfl ?_
 refine k_yes rfl rfl ?_
 refine k_nilCheck rfl rfl ?_
 refine k_yes rfl rfl ?_
 refine k_field_addr fld64_1 rfl rfl ?_
 refine k_yes rfl rfl ?_
 refine k_load_blk one4 rfl hb_o0 rfl rfl ?_
 refine k_yes rfl rfl ?_
 refine k_not rfl rfl ?_
 refine k_pickF rfl rfl rfl rfl ?_
 refine k_assign rfl rfl ?_
 refine k_nil ?_
 refine k_keep [(2, _)] ⟨rfl, trivial⟩ ?_
 refine k_ret ?_
 obtain rfl := Option.some.inj h
 refine ⟨_, rfl, Ret.mk hS ?_⟩
 exact rfl

set_option maxHeartbeats 1000000 in
set_option maxRecDepth 100000 in
theorem disk_Disk_Down_w {s : St} {k0 : Nat} {p0 : Value} {a0 : DiskDisk} {r : Bool} (ho0 : ODiskDisk s k0 p0 a0) (h : disk_Disk_Down a0 = some r) : Calls Tryd.prog 10 #[p0] s.w (Ret s K0 (fun s1 v => v = .bool r)) := by
 unfold disk_Disk_Down at h
 have le0 := ho0.le
 have ne0 := ho0.ne
 obtain ⟨bo0, rfl⟩ := ho0.ptr
 obtain ⟨wo0_0, wo0_1, hb_o0, hwo0_0, hwo0_1⟩ := ho0.at_
 have hS := Step.r0 K0 s
 refine k_fn (rs := [2]) (args := [.pointer (some ⟨bo0, 0, none⟩)]) Tryd.func10 rfl rfl rfl rfl ?_
 refine k_seq ?_
 refine k_region ?_
 refine k_assign rfl rfl ?_
 refine k_nil ?_
 refine k_seq ?_
 refine k_region ?_
 refine k_move rfl rfl ?_
 obtain ⟨x1, hx1, h⟩ := ob h
 refine k_call cal30 rfl (disk_Disk_none_w  (ODiskDisk.mk_ a0 (by omega) hwo0_0 hwo0_1 hb_o0) hx1) rfl ?_
 rintro s1 vr1 st1 rfl
 have szs1 := st1.size
 have hS := hS.trans0 st1
 replace hb_o0 := hb_o0.up2 st1
 refine k_move rfl rfl ?_
 have hE2 := Step.r0 K0 s1
 refine k_cutl (X := St) 5 [(0, .pointer (some ⟨bo0, 0, none⟩)), (2, .bool false), (3, .pointer (some ⟨bo0, 0, none⟩)), (4, .bool x1)] (fun _ => [(10, .bool (decide ((x1 = true) ∨ (a0.down = true))))]) (fun sl wL => sl.w = wL ∧ Step K0 s1 sl) ?_ ?_
 ·
  refine k_again 5 rfl ?_
  refine k_splitb (fun c3 => ?_) (fun c3 => ?_)
  ·
   refine k_no rfl rfl rfl rfl ?_
   refine k_no rfl rfl rfl rfl ?_
   refine k_no rfl rfl rfl rfl ?_
   refine k_no rfl rfl rfl rfl ?_
   refine k_pickT rfl rfl rfl rfl ?_
   exact k_met ⟨s1, ⟨(congrArg (fun b => some (Value.bool b)) (by first | exact decide_eq_decide.2 ⟨Or.inr, fun h => h.resolve_left c3⟩ | exact (decide_eq_true (Or.inl c3)).symm | (simp [c3]; done) | exact dec_andT c3 | exact dec_andF c3 | exact dec_orF c3 | exact dec_orT c3 | (simp [c3, i64] <;> omega))), trivial⟩, ⟨rfl, rfl, rfl, rfl, trivial⟩, rfl, hE2⟩
  ·
   refine k_yes rfl rfl ?_
   refine k_move rfl rfl ?_
   refine k_yes rfl rfl ?_
   refine k_nilCheck rfl rfl ?_
   refine k_yes rfl rfl ?_
   refine k_field_addr fld64_2 rfl rfl ?_
   refine k_yes rfl rfl ?_
   refine k_load_blk one4 rfl hb_o0 rfl rfl ?_
   refine k_pickF rfl rfl rfl rfl ?_
   exact k_met ⟨s1, ⟨(congrArg (fun b => some (Value.bool b)) (by first | exact decide_eq_decide.2 ⟨Or.inr, fun h => h.resolve_left c3⟩ | exact (decide_eq_true (Or.inl c3)).symm | (simp [c3]; done) | exact dec_andT c3 | exact dec_andF c3 | exact dec_orF c3 | exact dec_orT c3 | (simp [c3, i64] <;> omega))), trivial⟩, ⟨rfl, rfl, rfl, rfl, trivial⟩, rfl, hE2⟩
 ·
  rintro s4 wL ⟨rfl, hE2⟩
  have szs4 := hE2.size
  have hS := hS.trans0 hE2
  refine k_assign rfl rfl ?_
  refine k_nil ?_
  refine k_keep [(2, _)] ⟨rfl, trivial⟩ ?_
  refine k_ret ?_
  obtain rfl := Option.some.inj h
  refine ⟨_, rfl, Ret.mk hS ?_⟩
  exact rfl

set_option maxHeartbeats 1000000 in
set_option maxRecDepth 100000 in
theorem disk_Disk_first_w {s : St} {k0 : Nat} {p0 : Value} {a0 : DiskDisk} {l1 : Lab} {v1 : Value} {a1 : (List (List UInt8))} {r : Int} (ho0 : ODiskDisk s k0 p0 a0) (hp1 : SL s l1 v1 1 (a1.map dS)) (h : disk_Disk_first a0 a1 = some r) : Calls Tryd.prog 44 #[p0, v1] s.w (Ret s K0 (fun s1 v => v = .int .i64 r)) := by
 unfold disk_Disk_first at h
 have le0 := ho0.le
 have ne0 := ho0.ne
 obtain ⟨lf1, lf1le, lf1ne, hp1⟩ := hp1.fix
 have hS := Step.r0 K0 s
 refine k_fn (rs := [4]) (args := [p0, v1]) Tryd.func44 rfl rfl rfl rfl ?_
 refine k_seq ?_
 refine k_region ?_
 refine k_assign rfl rfl ?_
 refine k_nil ?_
 refine k_seq ?_
 refine k_seq ?_
 refine k_region ?_
 refine k_move rfl rfl ?_
 obtain ⟨pb1, rfl⟩ := ho0.ptr
 obtain ⟨x1, hx1, h⟩ := ob h
 refine k_call cal10 rfl (disk_Disk_Down_w  ho0 hx1) rfl ?_
 rintro s2 vr2 st2 rfl
 have szs2 := st2.size
 have hS := hS.trans0 st2
 replace hp1 := hp1.up2 st2
 refine k_nil ?_
 refine k_keep [(1, _), (4, _), (8, _)] ⟨rfl, rfl, rfl, trivial⟩ ?_
 refine k_cond rfl (fun c3 => ?_) (fun c3 => ?_)
 ·
  have h := ibT h c3
  refine k_seq ?_
  refine k_region ?_
  refine k_assign rfl rfl ?_
  refine k_nil ?_
  refine k_keep [(1, _), (4, _)] ⟨rfl, rfl, trivial⟩ ?_
  refine k_ret ?_
  obtain rfl := Option.some.inj h
  refine ⟨_, rfl, Ret.mk hS ?_⟩
  exact rfl
 ·
  have h := ibF h c3
  refine k_skip ?_
  refine k_seq ?_
  refine k_keep [(1, _), (4, _)] ⟨rfl, rfl, trivial⟩ ?_
  obtain ⟨kj2, hK4, h⟩ := jn_out h
  have hE4 := Step.r0 K0 s2
  refine k_cutc (X := St) [(4, .int .i64 0)] (fun (xL : St) => match xL with | sl => []) (fun (xL : St) (wL : World) => match xL with | sl => sl.w = wL ∧ Step K0 s2 sl ∧ kj2 () = some r) ?_ ?_
  ·
   refine k_seq ?_
   refine k_region ?_
   refine k_move rfl rfl ?_
   refine k_len Tryd.underlying99 rfl hp1.hasLen rfl ?_
   refine k_as (v := .int .i64 (a1.length : Int)) (by simp only [List.length_map]) ?_
   refine k_move rfl rfl ?_
   refine k_nil ?_
   refine k_keep [(4, _), (9, _), (10, _), (11, _)] ⟨rfl, rfl, rfl, rfl, trivial⟩ ?_
   refine k_block ?_
   refine k_loopc (X := St × Int × Nat) [(4, _), (9, _), (10, _)] (fun (xL : St × Int × Nat) => match xL with | (sl, x3, j) => [(11, .int .i64 x3)]) (fun (xL : St × Int × Nat) (wL : World) => match xL with | (sl, x3, j) => sl.w = wL ∧ Step K0 s2 sl ∧ disk_Disk_first_l1 a1 kj2 j x3 = some r) (fun (xL : St × Int × Nat) => match xL with | (sl, x3, j) => j) (s2, 0, FU) ⟨rfl, rfl, rfl, trivial⟩ ⟨(by first | rfl | (simp <;> rfl)), trivial⟩ ⟨rfl, (Step.refl _).of0 (by first | exact fun _ h => h | (intro c h; simp [KC, KO, KU, KN, KB] at h <;> omega)), h⟩ ?_
   rintro ⟨s6, x3, j⟩ wL ⟨rfl, hE5, h⟩
   cases j with
   | zero => rw [disk_Disk_first_l1] at h; exact (noneNe h).elim
   | succ j =>
   rw [disk_Disk_first_l1] at h
   have szs6 := hE5.size
   have hS := hS.trans0 hE5
   have hE4 := hE4.trans0 hE5
   replace hp1 := hp1.up2 hE5
   refine k_seq ?_
   refine k_region ?_
   refine k_lss rfl rfl rfl ?_
   refine k_nil ?_
   refine k_seq ?_
   refine k_cond_dec rfl (fun c7 => ?_) (fun c7 => ?_)
   ·
    have h := itT h c7
    refine k_skip ?_
    refine k_seq ?_
    refine k_block ?_
    refine k_seq ?_
    refine k_region ?_
    obtain ⟨x4, hx4, h⟩ := ob h
    refine k_ixaddr Tryd.underlying99 size9 rfl rfl hp1 (geti_out hx4).1 (geti_map hx4) rfl ?_
    intro qx4 hqx4
    refine k_load_val one9 rfl hqx4 rfl ?_
    refine k_assign rfl rfl ?_
    refine k_nil ?_
    refine k_keep [(4, _), (6, _), (9, _), (10, _), (11, _)] ⟨rfl, rfl, rfl, rfl, rfl, trivial⟩ ?_
    refine k_seq ?_
    refine k_region ?_
    refine k_move rfl rfl ?_
    obtain ⟨x5, hx5, h⟩ := ob h
    refine k_call cal55 rfl (disk_name_w   hx5) rfl ?_
    rintro s8 vr8 st8 rfl
    have szs8 := st8.size
    have hS := hS.trans0 st8
    have hE4 := hE4.trans0 st8
    have hE5 := hE5.trans0 st8
    refine k_not rfl rfl ?_
    refine k_nil ?_
    refine k_keep [(4, _), (9, _), (10, _), (11, _), (17, _)] ⟨rfl, rfl, rfl, rfl, rfl, trivial⟩ ?_
    refine k_cond rfl (fun c9 => ?_) (fun c9 => ?_)
    ·
     have h := ibT h c9
     refine k_seq ?_
     refine k_region ?_
     refine k_assign rfl rfl ?_
     refine k_nil ?_
     refine k_keep [(4, _), (9, _), (10, _), (11, _)] ⟨rfl, rfl, rfl, rfl, trivial⟩ ?_
     refine k_ret ?_
     obtain rfl := Option.some.inj h
     refine ⟨_, rfl, Ret.mk hS ?_⟩
     exact rfl
    ·
     have h := ibF h c9
     refine k_skip ?_
     refine k_blk ?_
     refine k_region ?_
     refine k_add rfl rfl rfl ?_
     refine k_move rfl rfl ?_
     refine k_nil ?_
     exact k_stop ⟨(s8, i64 (x3 + 1), j), ⟨(by first | rfl | (simp <;> rfl)), trivial⟩, ⟨rfl, rfl, rfl, trivial⟩, ⟨rfl, hE5, h⟩, (by simp)⟩
   ·
    have h := itF h c7
    refine k_exit rfl ?_
    exact k_stop ⟨s6, trivial, ⟨rfl, trivial⟩, ⟨rfl, hE4, h⟩⟩
  ·
   rintro s10 wL ⟨rfl, hE4, h⟩
   rw [hK4] at h
   have szs10 := hE4.size
   have hS := hS.trans0 hE4
   refine k_seq ?_
   refine k_region ?_
   refine k_assign rfl rfl ?_
   refine k_nil ?_
   refine k_ret ?_
   obtain rfl := Option.some.inj h
   refine ⟨_, rfl, Ret.mk hS ?_⟩
   exact rfl

set_option maxHeartbeats 1000000 in
set_option maxRecDepth 100000 in
theorem disk_Disk_seen_w {s : St} {k0 : Nat} {p0 : Value} {a0 : DiskDisk} {r : (List DiskFile)} (ho0 : ODiskDisk s k0 p0 a0) (h : disk_Disk_seen a0 = some r) : Calls Tryd.prog 38 #[p0] s.w (Ret s K0 (fun s1 v => ∃ (u0 : Value), v = u0 ∧ R s1 u0 (.sl 2 (r.map dDiskFile)))) := by
 unfold disk_Disk_seen at h
 have le0 := ho0.le
 have ne0 := ho0.ne
 obtain ⟨bo0, rfl⟩ := ho0.ptr
 obtain ⟨wo0_0, wo0_1, hb_o0, hwo0_0, hwo0_1⟩ := ho0.at_
 have hS := Step.r0 K0 s
 refine k_fn (rs := [2]) (args := [.pointer (some ⟨bo0, 0, none⟩)]) Tryd.func38 rfl rfl rfl rfl ?_
 refine k_seq ?_
 refine k_region ?_
 refine k_assign rfl rfl ?_
 refine k_nil ?_
 refine k_seq ?_
 refine k_seq ?_
 refine k_region ?_
 refine k_move rfl rfl ?_
 obtain ⟨x1, hx1, h⟩ := ob h
 refine k_call cal10 rfl (disk_Disk_Down_w  (ODiskDisk.mk_ a0 (by omega) hwo0_0 hwo0_1 hb_o0) hx1) rfl ?_
 rintro s1 vr1 st1 rfl
 have szs1 := st1.size
 have hS := hS.trans0 st1
 replace hwo0_0 := hwo0_0.up2 st1
 replace hb_o0 := hb_o0.up2 st1
 refine k_nil ?_
 refine k_keep [(0, _), (2, _), (4, _)] ⟨rfl, rfl, rfl, trivial⟩ ?_
 refine k_cond rfl (fun c2 => ?_) (fun c2 => ?_)
 ·
  have h := ibT h c2
  refine k_seq ?_
  refine k_region ?_
  refine k_assign rfl rfl ?_
  refine k_nil ?_
  refine k_keep [(0, _), (2, _)] ⟨rfl, rfl, trivial⟩ ?_
  refine k_ret ?_
  obtain rfl := Option.some.inj h
  refine ⟨_, rfl, Ret.mk hS ?_⟩
  exact ⟨_, rfl, (R.of_SL (.inl ⟨rfl, none, 0, rfl, fun _ => rfl⟩))⟩
 ·
  have h := ibF h c2
  refine k_skip ?_
  refine k_seq ?_
  refine k_keep [(0, _), (2, _)] ⟨rfl, rfl, trivial⟩ ?_
  refine k_drawT (KN s1.n) 12 (.read 0 (.read 1 (.read 2 (.read 3 (.read 4 (.read 5 (.read 6 (.read 7 (.read 8 (.read 9 (.read 10 (.read 11 .fin)))))))))))) mixed (by intro c h; (try simp only [KC, KO, KU, KN, KB] at h) <;> omega) rfl rfl rfl ?_
  intro s3 st3
  have szs3 := st3.size
  have hS := hS.trans0 st3
  replace hwo0_0 := hwo0_0.up2 st3
  replace hb_o0 := hb_o0.up2 st3
  refine rt_read (.pointer (some ⟨bo0, 0, none⟩)) rfl rfl (fun s4 st4 => ?_) ?_
  ·refine k_move rfl rfl ?_
   exact fq_end
  refine rt_read (.pointer (some ⟨bo0, 0, none⟩)) rfl rfl (fun s5 st5 => ?_) ?_
  ·refine k_nilCheck rfl rfl ?_
   exact fq_end
  refine rt_read (.pointer (some ⟨bo0, 3, none⟩)) rfl rfl (fun s6 st6 => ?_) ?_
  ·refine k_field_addr fld64_3 rfl rfl ?_
   exact fq_end
  refine rt_read (wo0_0) rfl rfl (fun s7 st7 => ?_) ?_
  ·try replace hb_o0 := hb_o0.up2 st7
   refine k_load_blk one59 rfl hb_o0 rfl rfl ?_
   exact fq_end
  refine rt_read (.pointer (some ⟨bo0, 0, none⟩)) rfl rfl (fun s8 st8 => ?_) ?_
  ·refine k_move rfl rfl ?_
   exact fq_end
  refine rt_read (.pointer (some ⟨bo0, 0, none⟩)) rfl rfl (fun s9 st9 => ?_) ?_
  ·refine k_nilCheck rfl rfl ?_
   exact fq_end
  refine rt_read (.pointer (some ⟨bo0, 3, none⟩)) rfl rfl (fun s10 st10 => ?_) ?_
  ·refine k_field_addr fld64_3 rfl rfl ?_
   exact fq_end
  refine rt_read (wo0_0) rfl rfl (fun s11 st11 => ?_) ?_
  ·try replace hb_o0 := hb_o0.up2 st11
   refine k_load_blk one59 rfl hb_o0 rfl rfl ?_
   exact fq_end
  refine rt_read (.int .i64 (a0.pictures.length : Int)) rfl rfl (fun s12 st12 => ?_) ?_
  ·try replace hwo0_0 := hwo0_0.up2 st12
   refine k_len Tryd.underlying59 rfl (hwo0_0.sl).hasLen rfl ?_
   refine k_as (v := .int .i64 (a0.pictures.length : Int)) (by simp only [List.length_map]) ?_
   exact fq_end
  refine rt_read (.int .i64 (i64 ((a0.pictures.length : Int) - 1))) rfl rfl (fun s13 st13 => ?_) ?_
  ·refine k_sub_ rfl rfl rfl ?_
   exact fq_end
  obtain ⟨x2, hx2, h⟩ := ob h
  refine rt_ix rfl (wanted_none rfl) Tryd.underlying59 size76 rfl rfl (hwo0_0.sl) (geti_out hx2).1 (geti_map hx2) rfl ?_
  intro q14 hq14
  refine rt_ldsl rfl (wanted_none rfl) one76 rfl hq14 (by first | exact id | (simp only [KC, KO, KU, KN, KB] <;> omega)) rfl ?_
  intro v15 h15
  refine rt_fin ?_
  refine k_assign rfl rfl ?_
  refine k_nil ?_
  refine k_keep [(2, _)] ⟨rfl, trivial⟩ ?_
  refine k_ret ?_
  obtain rfl := Option.some.inj h
  refine ⟨_, rfl, Ret.mk hS ?_⟩
  exact ⟨_, rfl, h15⟩

set_option maxHeartbeats 1000000 in
set_option maxRecDepth 100000 in
theorem disk_Disk_there_nl_w {s : St} {k0 : Nat} {p0 : Value} {a0 : DiskDisk} {a1 : (List UInt8)} {r : Int} (ho0 : ODiskDisk s k0 p0 a0) (h : disk_Disk_there_nl a0 a1 = some r) : Calls Tryd.prog 37 #[p0, S a1, .slice none 0 0] s.w (Ret s K0 (fun s1 v => v = .int .i64 r)) := by
 unfold disk_Disk_there_nl at h
 have le0 := ho0.le
 have ne0 := ho0.ne
 have hS := Step.r0 K0 s
 refine k_fn (rs := [6]) (args := [p0, S a1, .slice none 0 0]) Tryd.func37 rfl rfl rfl rfl ?_
 refine k_seq ?_
 refine k_region ?_
 refine k_assign rfl rfl ?_
 refine k_nil ?_
 refine k_seq ?_
 refine k_seq ?_
 refine k_region ?_
 refine k_move rfl rfl ?_
 refine k_move rfl rfl ?_
 refine k_move rfl rfl ?_
 refine k_bslice2 (ds := ([a1] : List (List UInt8)).map dS) slc99 rfl (RVs.cons (R.val rfl) RVs.nil) (by rfl) (by rfl) rfl rfl ?_
 intro s1 v1 b1 st1 ge1 bl1 h1
 have szs1 := st1.size
 have hS := hS.trans0 st1
 replace ho0 := ho0.up2 st1
 have lt1 := Own.le1 h1
 obtain ⟨x1, hx1, h⟩ := ob h
 refine k_append_nil (es := ([a1] : List (List UInt8)).map dS) 1014 elem99 rfl rfl (h1.sl) (by have := (app_out hx1).1; simp only [List.length_map, List.length_nil] at *; omega) (by have := (app_out hx1).1; simp only [List.length_map, List.length_nil] at *; omega) rfl ?_
 intro s2 v2 st2 h2
 rw [← List.nil_append (([a1] : List (List UInt8))), ← (app_out hx1).2] at h2
 have szs2 := st2.size
 have hS := hS.trans0 st2
 replace ho0 := ho0.up2 st2
 have lq2 : s1.n + 1 ≤ s2.n := Own.le_ne h2 (fun e_ => app_ne hx1 (by simp) (List.map_eq_nil_iff.1 e_))
 obtain ⟨pb3, rfl⟩ := ho0.ptr
 obtain ⟨x2, hx2, h⟩ := ob h
 refine k_call cal44 rfl (disk_Disk_first_w  ho0 (h2.sl) hx2) rfl ?_
 rintro s4 vr4 st4 rfl
 have szs4 := st4.size
 have hS := hS.trans0 st4
 replace ho0 := ho0.up2 st4
 refine k_assign rfl rfl ?_
 refine k_nil ?_
 refine k_keep [(0, _), (1, _), (6, _), (7, _)] ⟨rfl, rfl, rfl, rfl, trivial⟩ ?_
 refine k_seq ?_
 refine k_region ?_
 refine k_move rfl rfl ?_
 refine k_neq rfl rfl rfl ?_
 refine k_nil ?_
 refine k_keep [(0, _), (1, _), (6, _), (7, _), (17, _)] ⟨rfl, rfl, rfl, rfl, rfl, trivial⟩ ?_
 refine k_cond_dec rfl (fun c5 => ?_) (fun c5 => ?_)
 ·
  have h := itT h c5
  refine k_seq ?_
  refine k_region ?_
  refine k_move rfl rfl ?_
  refine k_assign rfl rfl ?_
  refine k_nil ?_
  refine k_keep [(0, _), (1, _), (6, _)] ⟨rfl, rfl, rfl, trivial⟩ ?_
  refine k_ret ?_
  obtain rfl := Option.some.inj h
  refine ⟨_, rfl, Ret.mk hS ?_⟩
  exact rfl
 ·
  have h := itF h c5
  refine k_skip ?_
  refine k_seq ?_
  refine k_seq ?_
  refine k_region ?_
  refine k_move rfl rfl ?_
  obtain ⟨x3, hx3, h⟩ := ob h
  refine k_call cal38 rfl (disk_Disk_seen_w  ho0 hx3) rfl ?_
  rintro s6 v6_0 st6 ⟨_, rfl, h6_0⟩
  have szs6 := st6.size
  have hS := hS.trans0 st6
  refine k_move rfl rfl ?_
  obtain ⟨x4, hx4, h⟩ := ob h
  refine k_call cal51 rfl (disk_picture_find_w  (SL.of_R h6_0) hx4) rfl ?_
  rintro s7 vr7 st7 rfl
  have szs7 := st7.size
  have hS := hS.trans0 st7
  refine k_move rfl rfl ?_
  refine k_extract rfl rfl rfl ?_
  refine k_extract rfl rfl rfl ?_
  refine k_assign rfl rfl ?_
  refine k_assign rfl rfl ?_
  refine k_nil ?_
  refine k_keep [(6, _), (9, _)] ⟨rfl, rfl, trivial⟩ ?_
  refine k_seq ?_
  refine k_region ?_
  refine k_move rfl rfl ?_
  refine k_not rfl rfl ?_
  refine k_nil ?_
  refine k_keep [(6, _), (27, _)] ⟨rfl, rfl, trivial⟩ ?_
  refine k_cond rfl (fun c8 => ?_) (fun c8 => ?_)
  ·
   have h := ibT h c8
   refine k_seq ?_
   refine k_region ?_
   refine k_assign rfl rfl ?_
   refine k_nil ?_
   refine k_keep [(6, _)] ⟨rfl, trivial⟩ ?_
   refine k_ret ?_
   obtain rfl := Option.some.inj h
   refine ⟨_, rfl, Ret.mk hS ?_⟩
   exact rfl
  ·
   have h := ibF h c8
   refine k_skip ?_
   refine k_seq ?_
   refine k_region ?_
   refine k_assign rfl rfl ?_
   refine k_nil ?_
   refine k_keep [(6, _)] ⟨rfl, trivial⟩ ?_
   refine k_ret ?_
   obtain rfl := Option.some.inj h
   refine ⟨_, rfl, Ret.mk hS ?_⟩
   exact rfl

set_option maxHeartbeats 1000000 in
set_option maxRecDepth 100000 in
theorem disk_Disk_Read_w {s : St} {k0 : Nat} {p0 : Value} {a0 : DiskDisk} {a1 : (List UInt8)} {r : ((List UInt8) × Int)} (ho0 : ODiskDisk s k0 p0 a0) (h : disk_Disk_Read a0 a1 = some r) : Calls Tryd.prog 17 #[p0, S a1] s.w (Ret s K0 (fun s1 v => ∃ (u0 : Value), v = .tuple #[u0, .int .i64 r.2] ∧ R s1 u0 (.sl 1 (r.1.map bD)))) := by
 unfold disk_Disk_Read at h
 have le0 := ho0.le
 have ne0 := ho0.ne
 have hS := Step.r0 K0 s
 refine k_fn (rs := [4, 5]) (args := [p0, S a1]) Tryd.func17 rfl rfl rfl rfl ?_
 refine k_seq ?_
 refine k_region ?_
 refine k_assign rfl rfl ?_
 refine k_assign rfl rfl ?_
 refine k_nil ?_
 refine k_seq ?_
 refine k_seq ?_
 refine k_region ?_
 refine k_move rfl rfl ?_
 refine k_move rfl rfl ?_
 obtain ⟨pb1, rfl⟩ := ho0.ptr
 obtain ⟨x1, hx1, h⟩ := ob h
 refine k_call cal37 rfl (disk_Disk_there_nl_w  ho0 hx1) rfl ?_
 rintro s2 vr2 st2 rfl
 have szs2 := st2.size
 have hS := hS.trans0 st2
 replace ho0 := ho0.up2 st2
 refine k_assign rfl rfl ?_
 refine k_nil ?_
 refine k_keep [(0, _), (1, _), (4, _), (5, _), (6, _)] ⟨rfl, rfl, rfl, rfl, rfl, trivial⟩ ?_
 refine k_seq ?_
 refine k_region ?_
 refine k_move rfl rfl ?_
 refine k_neq rfl rfl rfl ?_
 refine k_nil ?_
 refine k_keep [(0, _), (1, _), (4, _), (5, _), (6, _), (11, _)] ⟨rfl, rfl, rfl, rfl, rfl, rfl, trivial⟩ ?_
 refine k_cond_dec rfl (fun c3 => ?_) (fun c3 => ?_)
 ·
  have h := itT h c3
  refine k_seq ?_
  refine k_region ?_
  refine k_move rfl rfl ?_
  refine k_assign rfl rfl ?_
  refine k_assign rfl rfl ?_
  refine k_nil ?_
  refine k_keep [(0, _), (1, _), (4, _), (5, _)] ⟨rfl, rfl, rfl, rfl, trivial⟩ ?_
  refine k_ret ?_
  obtain rfl := Option.some.inj h
  refine ⟨_, rfl, Ret.mk hS ?_⟩
  exact ⟨_, rfl, (R.of_SL (.inl ⟨rfl, none, 0, rfl, fun _ => rfl⟩))⟩
 ·
  have h := itF h c3
  refine k_skip ?_
  refine k_seq ?_
  refine k_region ?_
  refine k_move rfl rfl ?_
  obtain ⟨x2, hx2, h⟩ := ob h
  refine k_call cal38 rfl (disk_Disk_seen_w  ho0 hx2) rfl ?_
  rintro s4 v4_0 st4 ⟨_, rfl, h4_0⟩
  have szs4 := st4.size
  have hS := hS.trans0 st4
  refine k_move rfl rfl ?_
  obtain ⟨x3, hx3, h⟩ := ob h
  refine k_call cal39 rfl (disk_picture_bytes_w  (SL.of_R h4_0) hx3) rfl ?_
  rintro s5 v5_0 st5 ⟨_, rfl, h5_0⟩
  have szs5 := st5.size
  have hS := hS.trans0 st5
  obtain ⟨x4, hx4, h⟩ := ob h
  refine k_call cal34 rfl (slices_Clone_byte_byte_w  (SL.of_R h5_0) hx4) rfl ?_
  rintro s6 v6_0 st6 ⟨_, rfl, h6_0⟩
  have szs6 := st6.size
  have hS := hS.trans0 st6
  refine k_assign rfl rfl ?_
  refine k_assign rfl rfl ?_
  refine k_nil ?_
  refine k_keep [(4, _), (5, _)] ⟨rfl, rfl, trivial⟩ ?_
  refine k_ret ?_
  obtain rfl := Option.some.inj h
  refine ⟨_, rfl, Ret.mk hS ?_⟩
  exact ⟨_, rfl, h6_0⟩

set_option maxHeartbeats 1000000 in
set_option maxRecDepth 100000 in
theorem disk_picture_sizes_w {s : St} {v0 : Value} {a0 : (List DiskFile)} {r : (List DiskFile)} (hp0 : R s v0 (.sl 2 (a0.map dDiskFile))) (h : disk_picture_sizes a0 = some r) : Calls Tryd.prog 52 #[v0] s.w (Ret s K0 (fun s1 v => ∃ (ub0_0 : Nat), v = .func (.func 63) #[] #[.pointer (some ⟨ub0_0, 0, none⟩)] ∧ s.n ≤ ub0_0 ∧ BoxR s1 ub0_0 76 ((dL 2 dDiskFile) r))) := by
 unfold disk_picture_sizes at h
 have hS := Step.r0 K0 s
 refine k_fn (rs := [2]) (args := [v0]) Tryd.func52 rfl rfl rfl rfl ?_
 refine k_seq ?_
 refine k_region ?_
 refine k_box rfl rfl ?_
 intro s1 b1 st1 h1 ge1
 have szs1 := st1.size
 have hS := hS.trans0 st1
 replace hp0 := hp0.up2 st1
 rw [cells1 ((SL.of_R hp0)).one1] at h1
 have lt1 := h1.lt
 refine k_assign rfl rfl ?_
 refine k_nil ?_
 refine k_keep [(1, _), (2, _)] ⟨rfl, rfl, trivial⟩ ?_
 refine k_seq ?_
 refine k_region ?_
 refine k_makeFunc rfl rfl rfl ?_
 refine k_assign rfl rfl ?_
 refine k_nil ?_
 refine k_keep [(2, _)] ⟨rfl, trivial⟩ ?_
 refine k_ret ?_
 obtain rfl := Option.some.inj h
 refine ⟨_, rfl, Ret.mk hS ?_⟩
 exact ⟨_, rfl, (by omega), ⟨_, h1, hp0⟩⟩

set_option maxHeartbeats 1000000 in
set_option maxRecDepth 100000 in
theorem disk_picture_sizes_1_w {s : St} {l : Nat} {XT : Type} {a0 : XT → ((List UInt8) × Int) → Option (Bool × XT)} {I : XT → St → Prop} {Ky : Lab → Prop} {a50 : XT} {ub1 : Nat} {a1 : (List DiskFile)} {r : XT} (hY : Yielder Tryd.prog s.n l (fun (sl : St) (y : (List UInt8) × Int) (vs : List Value) => vs = [S y.1, .int .i64 y.2]) a0 I Ky) (hI : I a50 s) (hp1 : BoxR s ub1 76 ((dL 2 dDiskFile) a1)) (hky1 : ¬ Ky ⟨ub1 + 1, 0⟩) (h : disk_picture_sizes_1 a0 a50 a1 = some r) : Calls Tryd.prog 63 #[.func (.yield l) #[] #[], .pointer (some ⟨ub1, 0, none⟩)] s.w (Ret s (KB s.n Ky) (fun s1 v => v = .tuple #[] ∧ I r s1)) := by
 unfold disk_picture_sizes_1 at h
 replace hI := Cons.of hY hI (Nat.le_refl _)
 obtain ⟨cs1, hb_b1, hp1⟩ := hp1
 obtain ⟨w1, rfl, hp1⟩ := hp1.sl_inv
 replace hp1 : R s w1 ((dL 2 dDiskFile) a1) := hp1
 have lt1 := hb_b1.lt
 have hS := Step.r0 (KB s.n Ky) s
 refine k_fn (rs := []) (args := [.func (.yield l) #[] #[], .pointer (some ⟨ub1, 0, none⟩)]) Tryd.func63 rfl rfl rfl rfl ?_
 refine k_seq ?_
 refine k_region ?_
 refine k_load_blk one76 rfl hb_b1 rfl rfl ?_
 refine k_len Tryd.underlying76 rfl (SL.of_R hp1).hasLen rfl ?_
 refine k_as (v := .int .i64 (a1.length : Int)) (by simp only [List.length_map]) ?_
 refine k_move rfl rfl ?_
 refine k_nil ?_
 refine k_keep [(0, _), (5, _), (6, _), (7, _)] ⟨rfl, rfl, rfl, rfl, trivial⟩ ?_
 refine k_block ?_
 refine k_loopc (X := St × Int × XT × Nat) [(0, _), (5, _), (6, _)] (fun (xL : St × Int × XT × Nat) => match xL with | (sl, x1, x2, j) => [(7, .int .i64 x1)]) (fun (xL : St × Int × XT × Nat) (wL : World) => match xL with | (sl, x1, x2, j) => sl.w = wL ∧ Step (KB s.n Ky) s sl ∧ (Cons I s.n sl x2) ∧ disk_picture_sizes_1_l1 a1 a0 j x1 x2 = some r) (fun (xL : St × Int × XT × Nat) => match xL with | (sl, x1, x2, j) => j) (s, 0, a50, FU) ⟨rfl, rfl, rfl, trivial⟩ ⟨(by first | rfl | (simp <;> rfl)), trivial⟩ ⟨rfl, (Step.refl _).of0 (by first | exact fun _ h => h | (intro c h; simp [KC, KO, KU, KN, KB] at h <;> omega)), hI, h⟩ ?_
 rintro ⟨s3, x1, x2, j⟩ wL ⟨rfl, hE2, hI, h⟩
 cases j with
 | zero => rw [disk_picture_sizes_1_l1] at h; exact (noneNe h).elim
 | succ j =>
 rw [disk_picture_sizes_1_l1] at h
 have szs3 := hE2.size
 have hS : Step (KB s.n Ky) s s3 := hS.comp hE2 (by intro l hl hk; (try simp only [KC, KO, KU, KN, K0, KB] at hk ⊢); (repeat' (refine Or.elim hk (fun hk => ?_) (fun hk => ?_))) <;> first | exact hk | exact .inl hk | exact .inr hk | exact .inr (.inl hk) | exact .inr (.inr hk) | omega)
 replace hp1 := hp1.up2 hE2
 refine k_seq ?_
 refine k_region ?_
 refine k_lss rfl rfl rfl ?_
 refine k_nil ?_
 refine k_seq ?_
 refine k_cond_dec rfl (fun c4 => ?_) (fun c4 => ?_)
 ·
  have h := itT h c4
  refine k_skip ?_
  refine k_seq ?_
  refine k_block ?_
  refine k_seq ?_
  refine k_region ?_
  obtain ⟨x3, hx3, h⟩ := ob h
  refine k_ixaddr Tryd.underlying76 size80 rfl rfl (SL.of_R hp1) (geti_out hx3).1 (geti_map hx3) rfl ?_
  intro qx3 hqx3
  refine k_load_agg (by exact agg80) rfl hqx3 rfl ?_
  intro cs5 h5
  obtain ⟨q5_0, rfl, hq5_0⟩ := opnDiskFile h5
  refine k_alloc zero80 rfl ?_
  intro s6 b6 st6 h6 ge6
  have szs6 := st6.size
  have hS := hS.trans0 st6
  have hE2 := hE2.trans0 st6
  replace hq5_0 := hq5_0.up2 st6
  replace hI := hI.up2 st6
  have lt6 := h6.lt
  refine k_store_c (cs' := [S x3.name, q5_0]) size80 rfl rfl h6 (by first | (simp; done) | omega | (dsimp only; omega)) (CellsOf.lit (vs := [S x3.name, q5_0]) rfl (ones.cons rfl (ones.cons ((SL.of_R hq5_0)).one1 ones.nil))) rfl (by first | rfl | (simp; done) | (simp; omega)) rfl ?_
  intro s7 st7 h6
  have szs7 := st7.size
  have hS : Step (KB s.n Ky) s s7 := hS.comp st7 (by intro l hl hk; (try simp only [KC, KO, KU, KN, K0, KB] at hk ⊢); (repeat' (refine Or.elim hk (fun hk => ?_) (fun hk => ?_))) <;> first | exact hk | exact .inl hk | exact .inr hk | exact .inr (.inl hk) | exact .inr (.inr hk) | omega)
  have hE2 : Step (KB s.n Ky) s s7 := hE2.comp st7 (by intro l hl hk; (try simp only [KC, KO, KU, KN, K0, KB] at hk ⊢); (repeat' (refine Or.elim hk (fun hk => ?_) (fun hk => ?_))) <;> first | exact hk | exact .inl hk | exact .inr hk | exact .inr (.inl hk) | exact .inr (.inr hk) | omega)
  replace hq5_0 := hq5_0.up2 st7
  replace hI := hI.up2 st7
  refine k_nil ?_
  refine k_keep [(0, _), (4, _), (5, _), (6, _), (7, _)] ⟨rfl, rfl, rfl, rfl, rfl, trivial⟩ ?_
  refine k_seq ?_
  refine k_region ?_
  refine k_move rfl rfl ?_
  refine k_field_addr fld80_0 rfl rfl ?_
  refine k_load_blk one9 rfl h6 rfl rfl ?_
  refine k_field_addr fld80_1 rfl rfl ?_
  refine k_load_blk one33 rfl h6 rfl rfl ?_
  refine k_len Tryd.underlying33 rfl (SL.of_R hq5_0).hasLen rfl ?_
  refine k_as (v := .int .i64 (x3.b.length : Int)) (by simp only [List.length_map]) ?_
  obtain ⟨x4, hx4, h⟩ := ob h
  refine k_yield rfl rfl (hY.yield _ _ _ _ _ hI.2.1 hI.1 rfl hx4) rfl ?_
  rintro s8 _ st8 ⟨rfl, hI⟩
  replace hI := Cons.of hY hI (Nat.le_trans (by omega) st8.size)
  have szs8 := st8.size
  have hS : Step (KB s.n Ky) s s8 := hS.comp st8 (by intro l hl hk; (try simp only [KC, KO, KU, KN, K0, KB] at hk ⊢); (repeat' (refine Or.elim hk (fun hk => ?_) (fun hk => ?_))) <;> first | exact hk | exact .inl hk | exact .inr hk | exact .inr (.inl hk) | exact .inr (.inr hk) | omega)
  have hE2 : Step (KB s.n Ky) s s8 := hE2.comp st8 (by intro l hl hk; (try simp only [KC, KO, KU, KN, K0, KB] at hk ⊢); (repeat' (refine Or.elim hk (fun hk => ?_) (fun hk => ?_))) <;> first | exact hk | exact .inl hk | exact .inr hk | exact .inr (.inl hk) | exact .inr (.inr hk) | omega)
  refine k_not rfl rfl ?_
  refine k_nil ?_
  refine k_keep [(0, _), (5, _), (6, _), (7, _), (18, _)] ⟨rfl, rfl, rfl, rfl, rfl, trivial⟩ ?_
  refine k_cond rfl (fun c9 => ?_) (fun c9 => ?_)
  ·
   have h := ibT h c9
   refine k_ret ?_
   obtain rfl := Option.some.inj h
   refine ⟨_, rfl, Ret.mk hS ?_⟩
   exact ⟨rfl, hI.1⟩
  ·
   have h := ibF h c9
   refine k_skip ?_
   refine k_blk ?_
   refine k_region ?_
   refine k_add rfl rfl rfl ?_
   refine k_move rfl rfl ?_
   refine k_nil ?_
   exact k_stop ⟨(s8, i64 (x1 + 1), x4.2, j), ⟨(by first | rfl | (simp <;> rfl)), trivial⟩, ⟨rfl, rfl, rfl, trivial⟩, ⟨rfl, hE2, hI, h⟩, (by simp)⟩
 ·
  have h := itF h c4
  refine k_exit rfl ?_
  refine k_end ?_
  obtain rfl := Option.some.inj h
  refine ⟨_, rfl, Ret.mk hS ?_⟩
  exact ⟨rfl, hI.1⟩

set_option maxHeartbeats 1000000 in
set_option maxRecDepth 100000 in
theorem disk_picture_size_w {s : St} {v0 : Value} {a0 : (List DiskFile)} {r : Int} (hp0 : R s v0 (.sl 2 (a0.map dDiskFile))) (h : disk_picture_size a0 = some r) : Calls Tryd.prog 40 #[v0] s.w (Ret s K0 (fun s1 v => v = .int .i64 r)) := by
 unfold disk_picture_size at h
 have hS := Step.r0 K0 s
 refine k_fn_m (args := [v0]) Tryd.func40 rfl rfl ?_
 refine rk_seq ?_
 refine rk_run ?_
 refine k_region ?_
 refine k_assign rfl rfl ?_
 refine k_nil ?_
 refine k_stop ?_
 refine rk_seq ?_
 refine rk_run ?_
 refine k_region ?_
 refine k_alloc zero3 rfl ?_
 intro s1 b1 st1 h1 ge1
 have szs1 := st1.size
 have hS := hS.trans0 st1
 replace hp0 := hp0.up2 st1
 have lt1 := h1.lt
 refine k_store_c (cs' := [.int .i64 0]) size3 rfl rfl h1 (by first | (simp; done) | omega | (dsimp only; omega)) (CellsOf.lit rfl rfl) rfl (by first | rfl | (simp; done) | (simp; omega)) rfl ?_
 intro s2 st2 h1
 have szs2 := st2.size
 have hS := hS.c0 st2
 replace hp0 := hp0.up2 st2
 refine k_nil ?_
 refine k_stop ?_
 refine rk_seq ?_
 refine rk_seq ?_
 refine rk_run ?_
 refine k_region ?_
 refine k_move rfl rfl ?_
 obtain ⟨x1, hx1, h⟩ := ob h
 refine k_call cal52 rfl (disk_picture_sizes_w  (show R s2 v0 (.sl 2 (a0.map dDiskFile)) from hp0) hx1) rfl ?_
 rintro s3 vr3 st3 ⟨ub3_0_0, rfl, hg3_0_0, h3_0_0⟩
 have szs3 := st3.size
 have hS := hS.trans0 st3
 replace h1 := h1.up2 st3
 refine k_nil ?_
 refine k_stop ?_
 obtain ⟨x5, hx5, h⟩ := ob h
 refine rk_range (A := ((List UInt8) × Int)) (X := Int) (ps := [8, 9]) (fun (sl : St) (y : (List UInt8) × Int) (vs : List Value) => vs = [S y.1, .int .i64 y.2]) (fun (x2 : Int) (x3 : ((List UInt8) × Int)) => some (true, i64 (x2 + x3.2))) (fun (xL : Int) (sl : St) => (Blk sl b1 ⟨b1 + 1, 0⟩ [.int .i64 xL] 3)) (KC (b1 + 1) 0) rfl cal63 (fun _ _ _ h => by obtain rfl := h; rfl) (by decide) (by intro lab h; (try simp only [KC, KO, KU, KN, K0, KB] at h); first | exact h.elim | omega) 0 x5 h1 (by rintro x t1 t2 K z0 st hK; exact z0.up st (fun hk => by have hq := hK _ hk; (try dsimp only at hq); omega)) ?_ ?_ ?_
 ·
  intro l rec sR4 x2 x3 vsR rR4 hl1 hl2 hrec
  rintro h1 hL henc hc4
  obtain rfl := henc
  try dsimp only at hc4
  have hRS4 := Step.r0 (KU (KC (l + 1) 0) (KC (b1 + 1) 0)) sR4
  refine k_region ?_
  refine k_assign rfl rfl ?_
  refine k_nil ?_
  refine k_stop ?_
  refine k_begin hL hrec ?_
  intro s5 st5 hL
  have szs5 := st5.size
  have hRS4 := hRS4.c0 st5
  replace h1 := h1.up2 st5
  refine k_keep [(3, _), (5, _)] ⟨rfl, rfl, trivial⟩ ?_
  refine k_block ?_
  refine k_region ?_
  refine k_load_blk one3 rfl h1 rfl rfl ?_
  refine k_move rfl rfl ?_
  refine k_add rfl rfl rfl ?_
  refine k_store_c (cs' := [.int .i64 (i64 (x2 + x3.2))]) size3 rfl rfl h1 (by first | (simp; done) | omega | (dsimp only; omega)) (CellsOf.lit rfl rfl) rfl (by first | rfl | (simp; done) | (simp; omega)) rfl ?_
  intro s6 st6 h1
  have szs6 := st6.size
  have hRS4 := hRS4.c0 st6
  replace hL := hL.up2 st6
  refine k_nil ?_
  refine k_blk ?_
  refine k_end ?_
  obtain rfl := Option.some.inj hc4
  exact ⟨rfl, s6, rfl, hRS4, hL, h1⟩
 ·
  intro l t1 I' Ky st hl1 hl2 hK1 hK2 hY hI'
  have ltb_ub3_0_0 := h3_0_0.lt
  exact disk_picture_sizes_1_w hY hI' (h3_0_0.up2 st) (fun h => by rcases hK2 _ h with h | h <;> (simp only [KU, KN, KC, KO, K0, KB, Lab.mk.injEq] at h) <;> omega) hx5
 ·
  intro D4 s7 stn4
  rintro h1 hM4 hD4
  have szs7 := stn4.size
  have hS := hS.c0 stn4
  refine rk_last ?_
  refine k_seq ?_
  refine k_region ?_
  refine k_load_blk one3 rfl h1 rfl rfl ?_
  refine k_assign rfl rfl ?_
  refine k_nil ?_
  refine k_keep [(2, _)] ⟨rfl, trivial⟩ ?_
  refine k_ret ?_
  refine re_ret ?_
  refine re_cons hM4 (fun s8 st8 => ?_)
  have szs8 := st8.size
  have hS := hS.c0 st8
  obtain rfl := Option.some.inj h
  refine re_nil (rs := [2]) rfl rfl ?_
  refine ⟨_, rfl, Ret.mk hS ?_⟩
  exact rfl

set_option maxHeartbeats 1000000 in
set_option maxRecDepth 100000 in
theorem disk_adding_torn_w {s : St} {cs0 : List Value} {a0 : DiskAdding} {a1 : Int} {r : DiskCall} (hp0 : RC s cs0 (dDiskAdding a0)) (h : disk_adding_torn a0 a1 = some r) : Calls Tryd.prog 41 #[.agg cs0.toArray, .int .i64 a1] s.w (Ret s K0 (fun s1 v => ∃ (u0 : Value), v = u0 ∧ R s1 u0 (dDiskCall r))) := by
 unfold disk_adding_torn at h
 obtain ⟨q0_0, rfl, hq0_0⟩ := opnDiskAdding hp0
 have hS := Step.r0 K0 s
 refine k_fn (rs := [4]) (args := [.agg #[S a0.file.name, q0_0], .int .i64 a1]) Tryd.func41 rfl rfl rfl rfl ?_
 refine k_seq ?_
 refine k_region ?_
 refine k_box rfl rfl ?_
 intro s1 b1 st1 h1 ge1
 have szs1 := st1.size
 have hS := hS.trans0 st1
 replace hq0_0 := hq0_0.up2 st1
 have lt1 := h1.lt
 refine k_assign rfl rfl ?_
 refine k_nil ?_
 refine k_keep [(1, _), (2, _), (4, _)] ⟨rfl, rfl, rfl, trivial⟩ ?_
 refine k_seq ?_
 refine k_region ?_
 refine k_field_addr fld82_0 rfl rfl ?_
 refine k_field_addr fld80_1 rfl rfl ?_
 refine k_load_blk one33 rfl h1 rfl rfl ?_
 refine k_move rfl rfl ?_
 refine k_field_addr fld82_0 rfl rfl ?_
 refine k_field_addr fld80_1 rfl rfl ?_
 refine k_load_blk one33 rfl h1 rfl rfl ?_
 refine k_len Tryd.underlying33 rfl (SL.of_R hq0_0).hasLen rfl ?_
 refine k_as (v := .int .i64 (a0.file.b.length : Int)) (by simp only [List.length_map]) ?_
 refine k_min2 rfl rfl rfl ?_
 obtain ⟨x1, hx1, h⟩ := ob h
 refine k_cut_sl (i := (0 : Int).toNat) (j := (min a1 (a0.file.b.length : Int) : Int).toNat) Tryd.underlying33 size5 rfl (SL.of_R hq0_0) CutAt.none (CutAt.int rfl (Int.le_trans (subl_out hx1).1 (subl_out hx1).2.1)) (subl_ij hx1) (by rw [List.length_map]; exact subl_j hx1) rfl ?_
 intro vx1 hcx1
 rw [← List.map_drop, ← List.map_take, ← (subl_out hx1).2.2.2] at hcx1
 have hcx1 := R.of_SL hcx1
 refine k_field_addr fld82_0 rfl rfl ?_
 refine k_field_addr fld80_1 rfl rfl ?_
 refine k_store_c (cs' := [S a0.file.name, vx1]) size33 rfl rfl h1 (by first | (simp; done) | omega | (dsimp only; omega)) (CellsOf.sl (SL.of_R hcx1)) rfl (by first | rfl | (simp; done) | (simp; omega)) rfl ?_
 intro s2 st2 h1
 have szs2 := st2.size
 have hS := hS.c0 st2
 replace hcx1 := hcx1.up2 st2
 refine k_nil ?_
 refine k_keep [(2, _), (4, _)] ⟨rfl, rfl, trivial⟩ ?_
 refine k_seq ?_
 refine k_region ?_
 refine k_load_blka (cs := [S a0.file.name, vx1]) agg82 rfl h1 rfl ?_
 refine k_makeIface conc82 rfl rfl ?_
 have h3 : R s2 (.iface 82 (.agg #[S a0.file.name, vx1])) (dDiskCall (DiskCall.adding (⟨(⟨a0.file.name, x1⟩ : DiskFile)⟩ : DiskAdding))) := R.ifc_mk (show R _ (.agg #[S a0.file.name, vx1]) (dDiskAdding (⟨(⟨a0.file.name, x1⟩ : DiskFile)⟩ : DiskAdding)) from ⟨_, rfl, (clsDiskAdding (⟨(⟨a0.file.name, x1⟩ : DiskFile)⟩ : DiskAdding) hcx1)⟩)
 refine k_assign rfl rfl ?_
 refine k_nil ?_
 refine k_keep [(4, _)] ⟨rfl, trivial⟩ ?_
 refine k_ret ?_
 obtain rfl := Option.some.inj h
 refine ⟨_, rfl, Ret.mk hS ?_⟩
 exact ⟨_, rfl, h3⟩

set_option maxHeartbeats 1000000 in
set_option maxRecDepth 100000 in
theorem disk_Disk_only_w {s : St} {k0 : Nat} {p0 : Value} {a0 : DiskDisk} {v1 : Value} {a1 : (List DiskFile)} {r : DiskDisk} (ho0 : ODiskDisk s k0 p0 a0) (hp1 : R s v1 (.sl 2 (a1.map dDiskFile))) (h : disk_Disk_only a0 a1 = some r) : Calls Tryd.prog 42 #[p0, v1] s.w (Ret s (KO k0) (fun s1 v => v = .tuple #[] ∧ ODiskDisk s1 k0 p0 r)) := by
 unfold disk_Disk_only at h
 have le0 := ho0.le
 have ne0 := ho0.ne
 obtain ⟨bo0, rfl⟩ := ho0.ptr
 obtain ⟨wo0_0, wo0_1, hb_o0, hwo0_0, hwo0_1⟩ := ho0.at_
 have hS := Step.r0 (KO k0) s
 refine k_fn (rs := []) (args := [.pointer (some ⟨bo0, 0, none⟩), v1]) Tryd.func42 rfl rfl rfl rfl ?_
 refine k_region ?_
 refine k_move rfl rfl ?_
 refine k_move rfl rfl ?_
 refine k_move rfl rfl ?_
 refine k_bslice2 (ds := ([a1] : List (List DiskFile)).map (dL 2 dDiskFile)) slc59 rfl (RVs.cons hp1 RVs.nil) (by rfl) (by rfl) rfl rfl ?_
 intro s1 v1 b1 st1 ge1 bl1 h1
 have szs1 := st1.size
 have hS := hS.trans0 st1
 replace hb_o0 := hb_o0.up2 st1
 have lt1 := Own.le1 h1
 refine k_nilCheck rfl rfl ?_
 refine k_field_addr fld64_3 rfl rfl ?_
 refine k_store_c (cs' := [.int .i64 a0.capacity, .bool a0.made, .bool a0.down, v1, wo0_1, .int .i64 a0.fuse.n, .int .i64 a0.fuse.keep, .int .i64 a0.fuse.torn]) size59 rfl rfl hb_o0 (by first | (simp; done) | omega | (dsimp only; omega)) (CellsOf.sl (h1.sl)) rfl (by first | rfl | (simp; done) | (simp; omega)) rfl ?_
 intro s2 st2 hb_o0
 have szs2 := st2.size
 have hS := hS.c0 st2
 replace h1 := h1.up2 st2
 refine k_nilCheck rfl rfl ?_
 refine k_field_addr fld64_4 rfl rfl ?_
 refine k_store_c (cs' := [.int .i64 a0.capacity, .bool a0.made, .bool a0.down, v1, .slice none 0 0, .int .i64 a0.fuse.n, .int .i64 a0.fuse.keep, .int .i64 a0.fuse.torn]) size60 rfl rfl hb_o0 (by first | (simp; done) | omega | (dsimp only; omega)) (CellsOf.lit rfl rfl) rfl (by first | rfl | (simp; done) | (simp; omega)) rfl ?_
 intro s3 st3 hb_o0
 have szs3 := st3.size
 have hS := hS.c0 st3
 replace h1 := h1.up2 st3
 refine k_nil ?_
 refine k_end ?_
 obtain ⟨s4, e4, st4, h4⟩ := Own.relabelK k0 5 h1 (by first | omega | (dsimp only; omega)) (by first | omega | (dsimp only; omega)) (by first | omega | (dsimp only; omega))
 rw [← e4]
 have szs4 := st4.size
 have hS := hS.c0 st4
 replace hb_o0 := hb_o0.up2 st4
 obtain rfl := Option.some.inj h
 refine ⟨_, rfl, Ret.mk hS ?_⟩
 exact ⟨rfl, (ODiskDisk.mk_ (⟨a0.capacity, a0.made, a0.down, ([a1] : List (List DiskFile)), [], a0.fuse⟩ : DiskDisk) (by omega) h4 (Own.nil (by first | omega | (dsimp only; omega)) (by first | omega | (dsimp only; omega))) hb_o0)⟩

set_option maxHeartbeats 1000000 in
set_option maxRecDepth 100000 in
theorem disk_Disk_Crash_w {s : St} {k0 : Nat} {p0 : Value} {a0 : DiskDisk} {a1 : Int} {a2 : Int} {r : (Int × DiskDisk)} (ho0 : ODiskDisk s k0 p0 a0) (h : disk_Disk_Crash a0 a1 a2 = some r) : Calls Tryd.prog 24 #[p0, .int .i64 a1, .int .i64 a2] s.w (Ret s (KO k0) (fun s1 v => v = .int .i64 r.1 ∧ ODiskDisk s1 k0 p0 r.2)) := by
 unfold disk_Disk_Crash at h
 have le0 := ho0.le
 have ne0 := ho0.ne
 obtain ⟨bo0, rfl⟩ := ho0.ptr
 obtain ⟨wo0_0, wo0_1, hb_o0, hwo0_0, hwo0_1⟩ := ho0.at_
 have hS := Step.r0 (KO k0) s
 refine k_fn (rs := [6]) (args := [.pointer (some ⟨bo0, 0, none⟩), .int .i64 a1, .int .i64 a2]) Tryd.func24 rfl rfl rfl rfl ?_
 refine k_seq ?_
 refine k_region ?_
 refine k_assign rfl rfl ?_
 refine k_nil ?_
 refine k_seq ?_
 refine k_seq ?_
 refine k_region ?_
 refine k_move rfl rfl ?_
 obtain ⟨x1, hx1, h⟩ := ob h
 refine k_call cal10 rfl (disk_Disk_Down_w  (ODiskDisk.mk_ a0 (by omega) hwo0_0 hwo0_1 hb_o0) hx1) rfl ?_
 rintro s1 vr1 st1 rfl
 have szs1 := st1.size
 have hS := hS.trans0 st1
 replace hwo0_0 := hwo0_0.up2 st1
 replace hwo0_1 := hwo0_1.up2 st1
 replace hb_o0 := hb_o0.up2 st1
 refine k_nil ?_
 refine k_keep [(0, _), (1, _), (2, _), (6, _), (12, _)] ⟨rfl, rfl, rfl, rfl, rfl, trivial⟩ ?_
 refine k_cond rfl (fun c2 => ?_) (fun c2 => ?_)
 ·
  have h := ibT h c2
  refine k_seq ?_
  refine k_region ?_
  refine k_assign rfl rfl ?_
  refine k_nil ?_
  refine k_keep [(0, _), (1, _), (2, _), (6, _)] ⟨rfl, rfl, rfl, rfl, trivial⟩ ?_
  refine k_ret ?_
  obtain rfl := Option.some.inj h
  refine ⟨_, rfl, Ret.mk hS ?_⟩
  exact ⟨rfl, (ODiskDisk.mk_ a0 (by omega) hwo0_0 hwo0_1 hb_o0)⟩
 ·
  have h := ibF h c2
  refine k_skip ?_
  refine k_seq ?_
  refine k_region ?_
  refine k_move rfl rfl ?_
  refine k_max2 rfl rfl rfl ?_
  refine k_move rfl rfl ?_
  refine k_nilCheck rfl rfl ?_
  refine k_field_addr fld64_4 rfl rfl ?_
  refine k_load_blk one60 rfl hb_o0 rfl rfl ?_
  refine k_len Tryd.underlying60 rfl (hwo0_1.sl).hasLen rfl ?_
  refine k_as (v := .int .i64 (a0.calls.length : Int)) (by simp only [List.length_map]) ?_
  refine k_min2 rfl rfl rfl ?_
  refine k_assign rfl rfl ?_
  refine k_nil ?_
  refine k_keep [(0, _), (2, _), (6, _), (7, _)] ⟨rfl, rfl, rfl, rfl, trivial⟩ ?_
  refine k_seq ?_
  refine k_region ?_
  refine k_move rfl rfl ?_
  refine k_nilCheck rfl rfl ?_
  refine k_field_addr fld64_3 rfl rfl ?_
  refine k_load_blk one59 rfl hb_o0 rfl rfl ?_
  refine k_move rfl rfl ?_
  obtain ⟨x2, hx2, h⟩ := ob h
  refine k_ixaddr_own Tryd.underlying59 size76 rfl rfl hwo0_0 (geti_out hx2).1 (geti_map hx2) rfl ?_
  intro qx2 hqx2 heqx2
  refine k_load_sl one76 rfl hqx2 rfl ?_
  intro v3 h3
  refine k_assign rfl rfl ?_
  refine k_nil ?_
  refine k_keep [(0, _), (2, _), (6, _), (7, _), (8, _)] ⟨rfl, rfl, rfl, rfl, rfl, trivial⟩ ?_
  refine k_seq ?_
  obtain ⟨kj3, hK4, h⟩ := jn_out h
  have hE4 := Step.r0 K0 s1
  refine k_cutc (X := St × (List DiskFile) × Value) [(0, .pointer (some ⟨bo0, 0, none⟩)), (6, .int .i64 0)] (fun (xL : St × (List DiskFile) × Value) => match xL with | (sl, x4, v5) => [(8, v5)]) (fun (xL : St × (List DiskFile) × Value) (wL : World) => match xL with | (sl, x4, v5) => sl.w = wL ∧ Step K0 s1 sl ∧ (R sl v5 (.sl 2 (x4.map dDiskFile))) ∧ kj3 x4 = some r) ?_ ?_
  ·
   refine k_seq ?_
   refine k_region ?_
   refine k_move rfl rfl ?_
   refine k_move rfl rfl ?_
   refine k_nilCheck rfl rfl ?_
   refine k_field_addr fld64_4 rfl rfl ?_
   refine k_load_blk one60 rfl hb_o0 rfl rfl ?_
   refine k_len Tryd.underlying60 rfl (hwo0_1.sl).hasLen rfl ?_
   refine k_as (v := .int .i64 (a0.calls.length : Int)) (by simp only [List.length_map]) ?_
   refine k_lss rfl rfl rfl ?_
   refine k_nil ?_
   refine k_keep [(0, _), (2, _), (6, _), (7, _), (8, _), (34, _)] ⟨rfl, rfl, rfl, rfl, rfl, rfl, trivial⟩ ?_
   refine k_cond_dec rfl (fun c6 => ?_) (fun c6 => ?_)
   ·
    have h := itT h c6
    refine k_seq ?_
    refine k_region ?_
    refine k_move rfl rfl ?_
    refine k_nilCheck rfl rfl ?_
    refine k_field_addr fld64_4 rfl rfl ?_
    refine k_load_blk one60 rfl hb_o0 rfl rfl ?_
    refine k_move rfl rfl ?_
    obtain ⟨x5, hx5, h⟩ := ob h
    refine k_ixaddr_own Tryd.underlying60 size85 rfl rfl hwo0_1 (geti_out hx5).1 (geti_map hx5) rfl ?_
    intro qx5 hqx5 heqx5
    refine k_load_any one85 rfl hqx5 (dDiskCall_na _) rfl ?_
    intro v7 h7
    rcases oc_out h with ⟨ho_8, h⟩ | ⟨x6, ho_8, h⟩
    ·
     obtain ⟨tu8, u8, hv8, hn8⟩ := DiskCall.as_adding_none ho_8 h7
     refine k_assert_no (tu := tu8) (u := u8) noti82 ⟨_, Tryd.underlying82⟩ zero82 (congrArg some hv8) hn8 rfl ?_
     refine k_move rfl rfl ?_
     refine k_extract rfl rfl rfl ?_
     refine k_extract rfl rfl rfl ?_
     refine k_alloc zero82 rfl ?_
     intro s9 b9 st9 h9 ge9
     have szs9 := st9.size
     have hS := hS.trans0 st9
     have hE4 := hE4.trans0 st9
     replace h3 := h3.up2 st9
     have lt9 := h9.lt
     refine k_store_c (cs' := [S ([] : List UInt8), .slice none 0 0]) size82 rfl rfl h9 (by first | (simp; done) | omega | (dsimp only; omega)) (CellsOf.lit rfl rfl) rfl (by first | rfl | (simp; done) | (simp; omega)) rfl ?_
     intro s10 st10 h9
     have szs10 := st10.size
     have hS := hS.c0 st10
     have hE4 := hE4.c0 st10
     replace h3 := h3.up2 st10
     refine k_assign rfl rfl ?_
     refine k_nil ?_
     refine k_keep [(0, _), (2, _), (6, _), (8, _), (9, _), (10, _)] ⟨rfl, rfl, rfl, rfl, rfl, rfl, trivial⟩ ?_
     refine k_seq ?_
     refine k_region ?_
     refine k_move rfl rfl ?_
     refine k_move rfl rfl ?_
     refine k_no rfl rfl rfl rfl ?_
     refine k_no rfl rfl rfl rfl ?_
     refine k_pickF rfl rfl rfl rfl ?_
     refine k_move rfl rfl ?_
     refine k_no rfl rfl rfl rfl ?_
     refine k_no rfl rfl rfl rfl ?_
     refine k_no rfl rfl rfl rfl ?_
     refine k_no rfl rfl rfl rfl ?_
     refine k_no rfl rfl rfl rfl ?_
     refine k_pickF rfl rfl rfl rfl ?_
     refine k_nil ?_
     refine k_keep [(0, _), (2, _), (6, _), (8, _), (9, _), (57, _)] ⟨rfl, rfl, rfl, rfl, rfl, rfl, trivial⟩ ?_
     refine k_cond_false rfl ?_
     refine k_skip ?_
     exact k_stop ⟨(s10, x2, v3), ⟨(by first | rfl | (simp <;> rfl)), trivial⟩, ⟨rfl, rfl, trivial⟩, ⟨rfl, hE4, h3, h⟩⟩
    ·
     obtain ⟨u8, hv8, h8⟩ := R.ifc_inv (t := 82) (d := dDiskAdding x6) (by have hq := h7; rw [DiskCall.as_adding_some ho_8] at hq; exact hq)
     obtain ⟨⟨cs8⟩, rfl, h8⟩ := h8
     dsimp only at h8
     obtain ⟨q8_0, rfl, hq8_0⟩ := opnDiskAdding h8
     refine k_assert_yes (u := .agg #[S x6.file.name, q8_0]) noti82 ⟨_, Tryd.underlying82⟩ (congrArg some hv8) rfl ?_
     refine k_move rfl rfl ?_
     refine k_extract rfl rfl rfl ?_
     refine k_extract rfl rfl rfl ?_
     refine k_alloc zero82 rfl ?_
     intro s11 b11 st11 h11 ge11
     have szs11 := st11.size
     have hS := hS.trans0 st11
     have hE4 := hE4.trans0 st11
     replace h3 := h3.up2 st11
     replace hq8_0 := hq8_0.up2 st11
     have lt11 := h11.lt
     refine k_store_c (cs' := [S x6.file.name, q8_0]) size82 rfl rfl h11 (by first | (simp; done) | omega | (dsimp only; omega)) (CellsOf.lit (vs := [S x6.file.name, q8_0]) rfl (ones.cons rfl (ones.cons ((SL.of_R hq8_0)).one1 ones.nil))) rfl (by first | rfl | (simp; done) | (simp; omega)) rfl ?_
     intro s12 st12 h11
     have szs12 := st12.size
     have hS := hS.c0 st12
     have hE4 := hE4.c0 st12
     replace h3 := h3.up2 st12
     replace hq8_0 := hq8_0.up2 st12
     refine k_assign rfl rfl ?_
     refine k_nil ?_
     refine k_keep [(0, _), (2, _), (6, _), (8, _), (9, _), (10, _)] ⟨rfl, rfl, rfl, rfl, rfl, rfl, trivial⟩ ?_
     refine k_seq ?_
     refine k_region ?_
     refine k_move rfl rfl ?_
     refine k_move rfl rfl ?_
     refine k_yes rfl rfl ?_
     refine k_move rfl rfl ?_
     refine k_yes rfl rfl ?_
     refine k_gtr rfl rfl rfl ?_
     refine k_pickT rfl rfl rfl rfl ?_
     refine k_move rfl rfl ?_
     have hE13 := Step.r0 K0 s12
     refine k_cutl (X := St) 6 [(0, .pointer (some ⟨bo0, 0, none⟩)), (2, .int .i64 a2), (6, .int .i64 0), (8, v3), (9, .pointer (some ⟨b11, 0, none⟩)), (10, .bool true), (46, .bool true), (47, .bool true), (48, .int .i64 a2), (49, .bool (decide (0 < a2))), (50, .bool (decide (0 < a2)))] (fun _ => [(57, .bool (decide ((0 < a2) ∧ (0 < (x6.file.b.length : Int)))))]) (fun sl wL => sl.w = wL ∧ Step K0 s12 sl) ?_ ?_
     ·
      refine k_again 51 rfl ?_
      refine k_split (fun c14 => ?_) (fun c14 => ?_)
      ·
       refine k_yes rfl rfl ?_
       refine k_field_addr fld82_0 rfl rfl ?_
       refine k_yes rfl rfl ?_
       refine k_field_addr fld80_1 rfl rfl ?_
       refine k_yes rfl rfl ?_
       refine k_load_blk one33 rfl h11 rfl rfl ?_
       refine k_yes rfl rfl ?_
       refine k_len Tryd.underlying33 rfl (SL.of_R hq8_0).hasLen rfl ?_
       refine k_as (v := .int .i64 (x6.file.b.length : Int)) (by simp only [List.length_map]) ?_
       refine k_yes rfl rfl ?_
       refine k_gtr rfl rfl rfl ?_
       refine k_pickT rfl rfl rfl rfl ?_
       exact k_met ⟨s12, ⟨(congrArg (fun b => some (Value.bool b)) (by first | exact decide_eq_decide.2 ⟨fun h => ⟨c14, h⟩, fun h => h.2⟩ | exact (decide_eq_false (fun h => c14 h.1)).symm | (simp [c14]; done) | exact dec_andT c14 | exact dec_andF c14 | exact dec_orF c14 | exact dec_orT c14 | (simp [c14, i64] <;> omega))), trivial⟩, ⟨rfl, rfl, rfl, rfl, rfl, rfl, rfl, rfl, rfl, rfl, rfl, trivial⟩, rfl, hE13⟩
      ·
       refine k_no rfl rfl rfl rfl ?_
       refine k_no rfl rfl rfl rfl ?_
       refine k_no rfl rfl rfl rfl ?_
       refine k_no rfl rfl rfl rfl ?_
       refine k_no rfl rfl rfl rfl ?_
       refine k_pickF rfl rfl rfl rfl ?_
       exact k_met ⟨s12, ⟨(congrArg (fun b => some (Value.bool b)) (by first | exact decide_eq_decide.2 ⟨fun h => ⟨c14, h⟩, fun h => h.2⟩ | exact (decide_eq_false (fun h => c14 h.1)).symm | (simp [c14]; done) | exact dec_andT c14 | exact dec_andF c14 | exact dec_orF c14 | exact dec_orT c14 | (simp [c14, i64] <;> omega))), trivial⟩, ⟨rfl, rfl, rfl, rfl, rfl, rfl, rfl, rfl, rfl, rfl, rfl, trivial⟩, rfl, hE13⟩
     ·
      rintro s15 wL ⟨rfl, hE13⟩
      have szs15 := hE13.size
      have hS := hS.trans0 hE13
      have hE4 := hE4.trans0 hE13
      replace h3 := h3.up2 hE13
      replace hq8_0 := hq8_0.up2 hE13
      replace h11 := h11.up2 hE13
      refine k_nil ?_
      refine k_keep [(0, _), (2, _), (6, _), (8, _), (9, _), (57, _)] ⟨rfl, rfl, rfl, rfl, rfl, rfl, trivial⟩ ?_
      refine k_cond_dec rfl (fun c16 => ?_) (fun c16 => ?_)
      ·
       have h := itT h c16
       refine k_region ?_
       refine k_load_blka (cs := [S x6.file.name, q8_0]) agg82 rfl h11 rfl ?_
       refine k_move rfl rfl ?_
       obtain ⟨x7, hx7, h⟩ := ob h
       refine k_call cal41 rfl (disk_adding_torn_w  (clsDiskAdding x6 hq8_0) hx7) rfl ?_
       rintro s17 v17_0 st17 ⟨_, rfl, h17_0⟩
       have szs17 := st17.size
       have hS := hS.trans0 st17
       have hE4 := hE4.trans0 st17
       replace h3 := h3.up2 st17
       refine k_move rfl rfl ?_
       obtain ⟨x8, hx8, h⟩ := ob h
       refine k_invoke rfl rfl (DiskCall_next_w  (show R s17 v17_0 (dDiskCall x7) from h17_0) (show R s17 v3 (.sl 2 (x2.map dDiskFile)) from h3) hx8) rfl ?_
       rintro s18 v18_0 st18 ⟨_, rfl, h18_0⟩
       have szs18 := st18.size
       have hS := hS.trans0 st18
       have hE4 := hE4.trans0 st18
       refine k_assign rfl rfl ?_
       refine k_nil ?_
       exact k_stop ⟨(s18, x8, v18_0), ⟨(by first | rfl | (simp <;> rfl)), trivial⟩, ⟨rfl, rfl, trivial⟩, ⟨rfl, hE4, h18_0, h⟩⟩
      ·
       have h := itF h c16
       refine k_skip ?_
       exact k_stop ⟨(s15, x2, v3), ⟨(by first | rfl | (simp <;> rfl)), trivial⟩, ⟨rfl, rfl, trivial⟩, ⟨rfl, hE4, h3, h⟩⟩
   ·
    have h := itF h c6
    refine k_skip ?_
    exact k_stop ⟨(s1, x2, v3), ⟨(by first | rfl | (simp <;> rfl)), trivial⟩, ⟨rfl, rfl, trivial⟩, ⟨rfl, hE4, h3, h⟩⟩
  ·
   rintro ⟨s19, x4, v5⟩ wL ⟨rfl, hE4, h5, h⟩
   rw [hK4] at h
   have szs19 := hE4.size
   have hS := hS.trans0 hE4
   replace hwo0_0 := hwo0_0.up2 hE4
   replace hwo0_1 := hwo0_1.up2 hE4
   replace hb_o0 := hb_o0.up2 hE4
   refine k_seq ?_
   refine k_region ?_
   refine k_move rfl rfl ?_
   refine k_move rfl rfl ?_
   obtain ⟨x9, hx9, h⟩ := ob h
   refine k_call cal42 rfl (disk_Disk_only_w  (ODiskDisk.mk_ a0 (by omega) hwo0_0 hwo0_1 hb_o0) (show R s19 v5 (.sl 2 (x4.map dDiskFile)) from h5) hx9) rfl ?_
   rintro s20 vr20 st20 ⟨rfl, hm20_0⟩
   obtain ⟨w20_0_0, w20_0_1, hb_20_0, hw20_0_0, hw20_0_1⟩ := hm20_0.at_
   have szs20 := st20.size
   have hS := hS.c0 st20
   refine k_nil ?_
   refine k_keep [(0, _), (6, _)] ⟨rfl, rfl, trivial⟩ ?_
   refine k_seq ?_
   refine k_region ?_
   refine k_move rfl rfl ?_
   refine k_move rfl rfl ?_
   refine k_build plc62 zero62 rfl Parts.nil (by rfl) rfl ?_
   refine k_as (v := .agg #[.int .i64 0, .int .i64 0, .int .i64 0]) rfl ?_
   refine k_nilCheck rfl rfl ?_
   refine k_field_addr fld64_2 rfl rfl ?_
   refine k_store_c (cs' := [.int .i64 x9.capacity, .bool x9.made, .bool true, w20_0_0, w20_0_1, .int .i64 x9.fuse.n, .int .i64 x9.fuse.keep, .int .i64 x9.fuse.torn]) size4 rfl rfl hb_20_0 (by first | (simp; done) | omega | (dsimp only; omega)) (CellsOf.lit rfl rfl) rfl (by first | rfl | (simp; done) | (simp; omega)) rfl ?_
   intro s21 st21 hb_20_0
   have szs21 := st21.size
   have hS := hS.c0 st21
   replace hw20_0_0 := hw20_0_0.up2 st21
   replace hw20_0_1 := hw20_0_1.up2 st21
   refine k_nilCheck rfl rfl ?_
   refine k_field_addr fld64_5 rfl rfl ?_
   refine k_store_c (cs' := [.int .i64 x9.capacity, .bool x9.made, .bool true, w20_0_0, w20_0_1, .int .i64 0, .int .i64 0, .int .i64 0]) size62 rfl rfl hb_20_0 (by first | (simp; done) | omega | (dsimp only; omega)) (CellsOf.lit rfl rfl) rfl (by first | rfl | (simp; done) | (simp; omega)) rfl ?_
   intro s22 st22 hb_20_0
   have szs22 := st22.size
   have hS := hS.c0 st22
   replace hw20_0_0 := hw20_0_0.up2 st22
   replace hw20_0_1 := hw20_0_1.up2 st22
   refine k_nil ?_
   refine k_keep [(6, _)] ⟨rfl, trivial⟩ ?_
   refine k_seq ?_
   refine k_region ?_
   refine k_assign rfl rfl ?_
   refine k_nil ?_
   refine k_ret ?_
   obtain rfl := Option.some.inj h
   refine ⟨_, rfl, Ret.mk hS ?_⟩
   exact ⟨rfl, (ODiskDisk.mk_ (⟨x9.capacity, x9.made, true, x9.pictures, x9.calls, (⟨0, 0, 0⟩ : DiskFuse)⟩ : DiskDisk) (by omega) hw20_0_0 hw20_0_1 hb_20_0)⟩

set_option maxHeartbeats 1000000 in
set_option maxRecDepth 100000 in
theorem disk_Disk_burn_w {s : St} {k0 : Nat} {p0 : Value} {a0 : DiskDisk} {r : (Int × DiskDisk)} (ho0 : ODiskDisk s k0 p0 a0) (h : disk_Disk_burn a0 = some r) : Calls Tryd.prog 50 #[p0] s.w (Ret s (KO k0) (fun s1 v => v = .int .i64 r.1 ∧ ODiskDisk s1 k0 p0 r.2)) := by
 unfold disk_Disk_burn at h
 have le0 := ho0.le
 have ne0 := ho0.ne
 obtain ⟨bo0, rfl⟩ := ho0.ptr
 obtain ⟨wo0_0, wo0_1, hb_o0, hwo0_0, hwo0_1⟩ := ho0.at_
 have hS := Step.r0 (KO k0) s
 refine k_fn (rs := [2]) (args := [.pointer (some ⟨bo0, 0, none⟩)]) Tryd.func50 rfl rfl rfl rfl ?_
 refine k_seq ?_
 refine k_region ?_
 refine k_assign rfl rfl ?_
 refine k_nil ?_
 refine k_seq ?_
 refine k_seq ?_
 refine k_region ?_
 refine k_move rfl rfl ?_
 refine k_nilCheck rfl rfl ?_
 refine k_field_addr fld64_5 rfl rfl ?_
 refine k_field_addr fld62_0 rfl rfl ?_
 refine k_load_blk one3 rfl hb_o0 rfl rfl ?_
 refine k_nil ?_
 refine k_keep [(0, _), (2, _), (7, _)] ⟨rfl, rfl, rfl, trivial⟩ ?_
 refine k_block ?_
 refine k_seq ?_
 refine k_region ?_
 refine k_eql rfl rfl rfl ?_
 refine k_assign rfl rfl ?_
 refine k_nil ?_
 refine k_keep [(0, _), (2, _), (7, _), (8, _)] ⟨rfl, rfl, rfl, rfl, trivial⟩ ?_
 refine k_cond_dec rfl (fun c1 => ?_) (fun c1 => ?_)
 ·
  have h := itT h c1
  refine k_seq ?_
  refine k_region ?_
  refine k_assign rfl rfl ?_
  refine k_nil ?_
  refine k_keep [(0, _), (2, _)] ⟨rfl, rfl, trivial⟩ ?_
  refine k_ret ?_
  obtain rfl := Option.some.inj h
  refine ⟨_, rfl, Ret.mk hS ?_⟩
  exact ⟨rfl, (ODiskDisk.mk_ a0 (by omega) hwo0_0 hwo0_1 hb_o0)⟩
 ·
  have h := itF h c1
  refine k_seq ?_
  refine k_region ?_
  refine k_eql rfl rfl rfl ?_
  refine k_assign rfl rfl ?_
  refine k_nil ?_
  refine k_keep [(0, _), (2, _), (10, _)] ⟨rfl, rfl, rfl, trivial⟩ ?_
  refine k_cond_dec rfl (fun c2 => ?_) (fun c2 => ?_)
  ·
   have h := itT h c2
   refine k_seq ?_
   refine k_keep [(0, _), (2, _)] ⟨rfl, rfl, trivial⟩ ?_
   refine k_drawT (KN s.n) 11 (.read 0 (.read 1 (.read 2 (.read 3 (.read 4 (.read 5 (.read 6 (.read 7 (.read 8 (.read 9 (.read 10 .fin))))))))))) mixed (by intro c h; (try simp only [KC, KO, KU, KN, KB] at h) <;> omega) rfl rfl rfl ?_
   intro s3 st3
   have szs3 := st3.size
   have hS := hS.trans0 st3
   replace hwo0_0 := hwo0_0.up2 st3
   replace hwo0_1 := hwo0_1.up2 st3
   replace hb_o0 := hb_o0.up2 st3
   refine rt_read (.pointer (some ⟨bo0, 0, none⟩)) rfl rfl (fun s4 st4 => ?_) ?_
   ·refine k_move rfl rfl ?_
    exact fq_end
   refine rt_read (.pointer (some ⟨bo0, 0, none⟩)) rfl rfl (fun s5 st5 => ?_) ?_
   ·refine k_move rfl rfl ?_
    exact fq_end
   refine rt_read (.pointer (some ⟨bo0, 0, none⟩)) rfl rfl (fun s6 st6 => ?_) ?_
   ·refine k_nilCheck rfl rfl ?_
    exact fq_end
   refine rt_read (.pointer (some ⟨bo0, 5, none⟩)) rfl rfl (fun s7 st7 => ?_) ?_
   ·refine k_field_addr fld64_5 rfl rfl ?_
    exact fq_end
   refine rt_read (.pointer (some ⟨bo0, 6, none⟩)) rfl rfl (fun s8 st8 => ?_) ?_
   ·refine k_field_addr fld62_1 rfl rfl ?_
    exact fq_end
   refine rt_read (.int .i64 a0.fuse.keep) rfl rfl (fun s9 st9 => ?_) ?_
   ·try replace hb_o0 := hb_o0.up2 st9
    refine k_load_blk one3 rfl hb_o0 rfl rfl ?_
    exact fq_end
   refine rt_read (.pointer (some ⟨bo0, 0, none⟩)) rfl rfl (fun s10 st10 => ?_) ?_
   ·refine k_move rfl rfl ?_
    exact fq_end
   refine rt_read (.pointer (some ⟨bo0, 0, none⟩)) rfl rfl (fun s11 st11 => ?_) ?_
   ·refine k_nilCheck rfl rfl ?_
    exact fq_end
   refine rt_read (.pointer (some ⟨bo0, 5, none⟩)) rfl rfl (fun s12 st12 => ?_) ?_
   ·refine k_field_addr fld64_5 rfl rfl ?_
    exact fq_end
   refine rt_read (.pointer (some ⟨bo0, 7, none⟩)) rfl rfl (fun s13 st13 => ?_) ?_
   ·refine k_field_addr fld62_2 rfl rfl ?_
    exact fq_end
   refine rt_read (.int .i64 a0.fuse.torn) rfl rfl (fun s14 st14 => ?_) ?_
   ·try replace hb_o0 := hb_o0.up2 st14
    refine k_load_blk one3 rfl hb_o0 rfl rfl ?_
    exact fq_end
   refine rt_fin ?_
   obtain ⟨x1, hx1, h⟩ := ob h
   refine k_call cal24 rfl (disk_Disk_Crash_w  (ODiskDisk.mk_ a0 (by omega) hwo0_0 hwo0_1 hb_o0) hx1) rfl ?_
   rintro s15 vr15 st15 ⟨rfl, hm15_0⟩
   obtain ⟨w15_0_0, w15_0_1, hb_15_0, hw15_0_0, hw15_0_1⟩ := hm15_0.at_
   have szs15 := st15.size
   have hS := hS.c0 st15
   refine k_nil ?_
   refine k_keep [(0, _), (2, _)] ⟨rfl, rfl, trivial⟩ ?_
   refine k_seq ?_
   refine k_region ?_
   refine k_assign rfl rfl ?_
   refine k_nil ?_
   refine k_ret ?_
   obtain rfl := Option.some.inj h
   refine ⟨_, rfl, Ret.mk hS ?_⟩
   exact ⟨rfl, (ODiskDisk.mk_ x1.2 (by omega) hw15_0_0 hw15_0_1 hb_15_0)⟩
  ·
   have h := itF h c2
   refine k_skip ?_
   refine k_blk ?_
   refine k_seq ?_
   refine k_region ?_
   refine k_move rfl rfl ?_
   refine k_nilCheck rfl rfl ?_
   refine k_field_addr fld64_5 rfl rfl ?_
   refine k_field_addr fld62_0 rfl rfl ?_
   refine k_load_blk one3 rfl hb_o0 rfl rfl ?_
   refine k_sub_ rfl rfl rfl ?_
   refine k_nilCheck rfl rfl ?_
   refine k_field_addr fld64_5 rfl rfl ?_
   refine k_field_addr fld62_0 rfl rfl ?_
   refine k_store_c (cs' := [.int .i64 a0.capacity, .bool a0.made, .bool a0.down, wo0_0, wo0_1, .int .i64 (i64 (a0.fuse.n - 1)), .int .i64 a0.fuse.keep, .int .i64 a0.fuse.torn]) size3 rfl rfl hb_o0 (by first | (simp; done) | omega | (dsimp only; omega)) (CellsOf.lit rfl rfl) rfl (by first | rfl | (simp; done) | (simp; omega)) rfl ?_
   intro s16 st16 hb_o0
   have szs16 := st16.size
   have hS := hS.c0 st16
   replace hwo0_0 := hwo0_0.up2 st16
   replace hwo0_1 := hwo0_1.up2 st16
   refine k_nil ?_
   refine k_keep [(2, _)] ⟨rfl, trivial⟩ ?_
   refine k_seq ?_
   refine k_region ?_
   refine k_assign rfl rfl ?_
   refine k_nil ?_
   refine k_ret ?_
   obtain rfl := Option.some.inj h
   refine ⟨_, rfl, Ret.mk hS ?_⟩
   exact ⟨rfl, (ODiskDisk.mk_ (⟨a0.capacity, a0.made, a0.down, a0.pictures, a0.calls, (⟨i64 (a0.fuse.n - 1), a0.fuse.keep, a0.fuse.torn⟩ : DiskFuse)⟩ : DiskDisk) (by omega) hwo0_0 hwo0_1 hb_o0)⟩
end Go.Proofs
