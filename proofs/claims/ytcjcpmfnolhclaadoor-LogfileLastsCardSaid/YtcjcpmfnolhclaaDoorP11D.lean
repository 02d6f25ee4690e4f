import Derived.Test.YtcjcpmfnolhclaaDoorZ11D
set_option linter.unusedSimpArgs false
set_option linter.unusedVariables false
namespace Go.Proofs
open Go.Fw
structure LogfileHeld where
  Disk : Unit
structure ApiTail where
  Count : Int
  Size : Int
  Sum : UInt32
abbrev dApiTail (x : ApiTail) : D := .agg [dI64 x.Count, dI64 x.Size, dU32 x.Sum]
structure LogfileLog where
  on : LogfileHeld
  name : (List UInt8)
  all_ : (List (List UInt8))
  tail : ApiTail
structure DiskFile where
  name : (List UInt8)
  b : (List UInt8)
abbrev dDiskFile (x : DiskFile) : D := .agg [dS x.name, (dL 1 bD) x.b]
structure DiskPutting where
  file : DiskFile
abbrev dDiskPutting (x : DiskPutting) : D := .agg [dDiskFile x.file]
structure DiskAdding where
  file : DiskFile
abbrev dDiskAdding (x : DiskAdding) : D := .agg [dDiskFile x.file]
inductive DiskCall where
  | adding (x : DiskAdding)
  | putting (x : DiskPutting)
def dDiskCall : DiskCall → D
  | .adding x => .ifc 82 (dDiskAdding x)
  | .putting x => .ifc 94 (dDiskPutting x)
def DiskCall.as_adding : DiskCall → Option DiskAdding
  | .adding x => some x
  | _ => none
def DiskCall.as_putting : DiskCall → Option DiskPutting
  | .putting x => some x
  | _ => none
structure DiskFuse where
  n : Int
  keep : Int
  torn : Int
abbrev dDiskFuse (x : DiskFuse) : D := .agg [dI64 x.n, dI64 x.keep, dI64 x.torn]
structure DiskDisk where
  capacity : Int
  made : Bool
  down : Bool
  pictures : (List (List DiskFile))
  calls : (List DiskCall)
  fuse : DiskFuse
abbrev dDiskDisk (x : DiskDisk) : D := .agg [dI64 x.capacity, dB x.made, dB x.down, (dL 1 (dL 2 dDiskFile)) x.pictures, (dL 1 dDiskCall) x.calls, dDiskFuse x.fuse]
structure Law11Act where
  Do : Int
  N : Int
  Keep : Int
  Torn : Int
  Bytes : (List UInt8)
abbrev dLaw11Act (x : Law11Act) : D := .agg [dI64 x.Do, dI64 x.N, dI64 x.Keep, dI64 x.Torn, (dL 1 bD) x.Bytes]
def logfile_Log_none_nil  : Option Bool := some true
def logfile_Log_At_nil (a1 : Int) : Option ((List UInt8) × Bool) := (logfile_Log_none_nil).bind fun x1 => some ([], false)
def logfile_Log_Append_nil (a1 : (List UInt8)) : Option Int := (logfile_Log_none_nil).bind fun x1 => some 12
def logfile_Log_Sync_nil  : Option Int := (logfile_Log_none_nil).bind fun x1 => some 12
def logfile_Log_Records_nil  : Option (List (List UInt8)) := (logfile_Log_none_nil).bind fun x1 => some ([])
def logfile_Log_Count_nil  : Option Int := (logfile_Log_none_nil).bind fun x1 => some 0
def logfile_Log_Size_nil  : Option Int := (logfile_Log_none_nil).bind fun x1 => some 0
def logfile_Log_Name_nil  : Option (List UInt8) := (logfile_Log_none_nil).bind fun x1 => some ([] : List UInt8)
def logfile_Log_none_rn (a0 : LogfileLog) : Option Bool := some true
def logfile_Log_At_rn (a0 : LogfileLog) (a1 : Int) : Option ((List UInt8) × Bool) := (logfile_Log_none_rn a0).bind fun x1 => some ([], false)
def logfile_Log_Append_rn (a0 : LogfileLog) (a1 : (List UInt8)) : Option Int := (logfile_Log_none_rn a0).bind fun x1 => some 12
def logfile_Log_Sync_rn (a0 : LogfileLog) : Option Int := (logfile_Log_none_rn a0).bind fun x1 => some 12
def logfile_Log_Records_rn (a0 : LogfileLog) : Option (List (List UInt8)) := (logfile_Log_none_rn a0).bind fun x1 => some ([])
def logfile_Log_Count_rn (a0 : LogfileLog) : Option Int := (logfile_Log_none_rn a0).bind fun x1 => some 0
def logfile_Log_Size_rn (a0 : LogfileLog) : Option Int := (logfile_Log_none_rn a0).bind fun x1 => some 0
def logfile_Log_Name_rn (a0 : LogfileLog) : Option (List UInt8) := (logfile_Log_none_rn a0).bind fun x1 => some ([] : List UInt8)
def disk_Disk_none_nil  : Option Bool := some true
def disk_Disk_Down_nil  : Option Bool := (disk_Disk_none_nil).bind fun x1 => some true
def disk_name (a0 : (List UInt8)) : Option Bool := (if (a0 ≠ ([] : List UInt8)) ∧ ((a0.length : Int) ≤ 16) then if a0.length ≤ 9223372036854775807 then some (decide ((Lib.trimS a0 nameSet) = ([] : List UInt8))) else none else some false).bind fun x1 => some x1
def disk_Disk_first_nil_l1 (a1 : (List (List UInt8))) (kj2 : (Unit → Option Int)) : Nat → Int → Option Int
  | 0, _ => none
  | j + 1, x3 => if x3 < (a1.length : Int) then (geti a1 x3).bind fun x4 => (disk_name x4).bind fun x5 => if (!x5) = true then some 1 else disk_Disk_first_nil_l1 a1 kj2 j (i64 (x3 + 1)) else kj2 ()
def disk_Disk_first_nil (a1 : (List (List UInt8))) : Option Int := (disk_Disk_Down_nil).bind fun x1 => if x1 = true then some 12 else jn (fun (_ : Unit) => some 0) (fun (kj2 : Unit → Option Int) => disk_Disk_first_nil_l1 a1 kj2 FU 0)
def disk_Disk_seen_nil  : Option (List DiskFile) := (disk_Disk_Down_nil).bind fun x1 => if x1 = true then some ([]) else none
def disk_picture_find_1 (a0 : DiskFile) (a1 : (List UInt8)) : Option Int := some (Lib.compareBytes a0.name a1)
def slices_BinarySearchFunc_disk_picture_disk_file_string_f61_l1 (a0 : (List DiskFile)) (a1 : (List UInt8)) (kj1 : (Int → Option (Int × Bool))) : Nat → Int → Int → Option (Int × Bool)
  | 0, _, _ => none
  | j + 1, x3, x4 => if x3 < x4 then (geti a0 (i64 ((shr64 (ofI64 (i64 (x3 + x4))) 1).toNat : Int))).bind fun x5 => (disk_picture_find_1 x5 a1).bind fun x6 => if x6 < 0 then slices_BinarySearchFunc_disk_picture_disk_file_string_f61_l1 a0 a1 kj1 j (i64 ((i64 ((shr64 (ofI64 (i64 (x3 + x4))) 1).toNat : Int)) + 1)) x4 else slices_BinarySearchFunc_disk_picture_disk_file_string_f61_l1 a0 a1 kj1 j x3 (i64 ((shr64 (ofI64 (i64 (x3 + x4))) 1).toNat : Int)) else kj1 x3
def slices_BinarySearchFunc_disk_picture_disk_file_string_f61 (a0 : (List DiskFile)) (a1 : (List UInt8)) : Option (Int × Bool) := jn (fun (x2 : Int) => (if x2 < (a0.length : Int) then (geti a0 x2).bind fun x8 => (disk_picture_find_1 x8 a1).bind fun x9 => some (decide (x9 = 0)) else some false).bind fun x7 => some (x2, x7)) (fun (kj1 : Int → Option (Int × Bool)) => slices_BinarySearchFunc_disk_picture_disk_file_string_f61_l1 a0 a1 kj1 FU 0 (a0.length : Int))
def disk_picture_find (a0 : (List DiskFile)) (a1 : (List UInt8)) : Option (Int × Bool) := (slices_BinarySearchFunc_disk_picture_disk_file_string_f61 a0 a1).bind fun x1 => some (x1.1, x1.2)
def disk_Disk_there_nil (a1 : (List UInt8)) (a2 : (List (List UInt8))) : Option Int := (app 8796093022208 a2 ([a1] : List (List UInt8))).bind fun x1 => (disk_Disk_first_nil x1).bind fun x2 => if x2 ≠ 0 then some x2 else (disk_Disk_seen_nil).bind fun x3 => (disk_picture_find x3 a1).bind fun x4 => if (!x4.2) = true then some 4 else some 0
def disk_Disk_there_nil_nl (a1 : (List UInt8)) : Option Int := (app 8796093022208 ([] : List (List UInt8)) ([a1] : List (List UInt8))).bind fun x1 => (disk_Disk_first_nil x1).bind fun x2 => if x2 ≠ 0 then some x2 else (disk_Disk_seen_nil).bind fun x3 => (disk_picture_find x3 a1).bind fun x4 => if (!x4.2) = true then some 4 else some 0
def disk_picture_bytes (a0 : (List DiskFile)) (a1 : (List UInt8)) : Option (List UInt8) := (disk_picture_find a0 a1).bind fun x1 => if x1.2 = true then (geti a0 x1.1).bind fun x2 => some x2.b else some ([])
def slices_Clone_byte_byte (a0 : (List UInt8)) : Option (List UInt8) := (app 140737488355328 ([] : List UInt8) a0).bind fun x1 => some x1
def disk_Disk_Read_nil (a1 : (List UInt8)) : Option ((List UInt8) × Int) := (disk_Disk_there_nil_nl a1).bind fun x1 => if x1 ≠ 0 then some ([], x1) else (disk_Disk_seen_nil).bind fun x2 => (disk_picture_bytes x2 a1).bind fun x3 => (slices_Clone_byte_byte x3).bind fun x4 => some (x4, 0)
def frame_records (a0 : (List UInt8)) : Option (List UInt8) := some a0
def frame_number (a0 : (List UInt8)) : Option UInt32 := (geti a0 0).bind fun x1 => (geti a0 1).bind fun x2 => (geti a0 2).bind fun x3 => (geti a0 3).bind fun x4 => some ((((ofI32 (((ofI32 (x1.toNat : Int)).toNat : Int) * 2 ^ (min (24 : Int).toNat 32))) ||| (ofI32 (((ofI32 (x2.toNat : Int)).toNat : Int) * 2 ^ (min (16 : Int).toNat 32)))) ||| (ofI32 (((ofI32 (x3.toNat : Int)).toNat : Int) * 2 ^ (min (8 : Int).toNat 32)))) ||| (ofI32 (x4.toNat : Int)))
def frame_word (a0 : UInt32) : Option (List UInt8) := some ([ofI8 ((shr32 a0 24).toNat : Int), ofI8 ((shr32 a0 16).toNat : Int), ofI8 ((shr32 a0 8).toNat : Int), ofI8 (a0.toNat : Int)] : List UInt8)
def slices_Reverse_byte_byte_l1 : Nat → Int → Int → (List UInt8) → Option (List UInt8)
  | 0, _, _, _ => none
  | j + 1, x1, x2, x3 => if x1 < x2 then (geti x3 x2).bind fun x4 => (geti x3 x1).bind fun x5 => (geti x3 x1).bind fun x6 => (geti (x3.set (x1 : Int).toNat x4) x2).bind fun x7 => slices_Reverse_byte_byte_l1  j (i64 (x1 + 1)) (i64 (x2 - 1)) ((x3.set (x1 : Int).toNat x4).set (x2 : Int).toNat x6) else some x3
def slices_Reverse_byte_byte (a0 : (List UInt8)) : Option (List UInt8) := slices_Reverse_byte_byte_l1  FU 0 (i64 ((a0.length : Int) - 1)) a0
def frame_turns_l2 (kj8 : (UInt32 → Option (List UInt32))) : Nat → UInt32 → Int → Option (List UInt32)
  | 0, _, _ => none
  | j + 1, x10, x11 => if x11 < 8 then frame_turns_l2 kj8 j ((shr32 x10 1) ^^^ (ofI32 (2197175160 * ((x10 &&& (1 : UInt32)).toNat : Int)))) (i64 (x11 + 1)) else kj8 x10
def frame_turns_l1 (kj1 : ((List UInt32) → Option (List UInt32))) : Nat → Int → (List UInt32) → Option (List UInt32)
  | 0, _, _ => none
  | j + 1, x3, x4 => jn (fun (y0 : Int) (y1 : (List UInt32)) => frame_turns_l1 kj1 j y0 y1) (fun (kj5 : Int → (List UInt32) → Option (List UInt32)) => if x3 < 256 then jn (fun (x7 : (List UInt32)) => kj5 (i64 (x3 + 1)) x7) (fun (kj6 : (List UInt32) → Option (List UInt32)) => jn (fun (x9 : UInt32) => (geti x4 x3).bind fun x12 => kj6 (x4.set (x3 : Int).toNat x9)) (fun (kj8 : UInt32 → Option (List UInt32)) => frame_turns_l2 kj8 FU (ofI32 x3) 0)) else kj1 x4)
def frame_turns  : Option (List UInt32) := jn (fun (x2 : (List UInt32)) => some x2) (fun (kj1 : (List UInt32) → Option (List UInt32)) => frame_turns_l1 kj1 FU 0 (List.replicate 256 (0 : UInt32)))
def frame_Check_l2 (x9 : (List UInt8)) (x1 : (List UInt32)) (kj7 : (UInt32 → Option UInt32)) : Nat → UInt32 → Int → Option UInt32
  | 0, _, _ => none
  | j + 1, x10, x11 => if x11 < (x9.length : Int) then (geti x9 x11).bind fun x12 => (geti x1 (((ofI8 (x10.toNat : Int)) ^^^ x12).toNat : Int)).bind fun x13 => frame_Check_l2 x9 x1 kj7 j (x13 ^^^ (shr32 x10 8)) (i64 (x11 + 1)) else kj7 x10
def frame_Check_l1 (a0 : (List (List UInt8))) (x1 : (List UInt32)) (kj2 : (UInt32 → Option UInt32)) : Nat → UInt32 → Int → Option UInt32
  | 0, _, _ => none
  | j + 1, x4, x5 => jn (fun (y0 : UInt32) (y1 : Int) => frame_Check_l1 a0 x1 kj2 j y0 y1) (fun (kj6 : UInt32 → Int → Option UInt32) => if x5 < (a0.length : Int) then jn (fun (x8 : UInt32) => kj6 x8 (i64 (x5 + 1))) (fun (kj7 : UInt32 → Option UInt32) => (geti a0 x5).bind fun x9 => frame_Check_l2 x9 x1 kj7 FU x4 0) else kj2 x4)
def frame_Check (a0 : (List (List UInt8))) : Option UInt32 := (frame_turns).bind fun x1 => jn (fun (x3 : UInt32) => some (4294967295 ^^^ x3)) (fun (kj2 : UInt32 → Option UInt32) => frame_Check_l1 a0 x1 kj2 FU (4294967295 : UInt32) 0)
def frame_sum (a0 : ApiTail) (a1 : (List UInt8)) (a2 : (List UInt8)) : Option UInt32 := (frame_word a0.Sum).bind fun x1 => if x1 ≠ [] then (slices_Reverse_byte_byte x1).bind fun x2 => (frame_Check ([x2, a1, a2] : List (List UInt8))).bind fun x3 => some x3 else none
def frame_Size (a0 : (List UInt8)) : Option Int := some (i64 (8 + (a0.length : Int)))
def frame_behind (a0 : ApiTail) (a1 : (List UInt8)) (a2 : UInt32) : Option ApiTail := (frame_Size a1).bind fun x1 => some (⟨i64 (a0.Count + 1), i64 (a0.Size + x1), a2⟩ : ApiTail)
def frame_records_1_l1 {XT : Type} (a0 : (XT → ((List UInt8) × ApiTail) → Option (Bool × XT))) : Nat → XT → (List UInt8) → Int → Int → UInt32 → Option XT
  | 0, _, _, _, _, _ => none
  | j + 1, x1, x2, x3, x4, x5 => if 8 ≤ (x2.length : Int) then (frame_number x2).bind fun x6 => if (16384 < (x6.toNat : Int)) ∨ (i64 ((x2.length : Int) - 8) < (x6.toNat : Int)) then some x1 else (subl x2 8 (i64 (8 + (x6.toNat : Int)))).bind fun x7 => jn (fun (_ : Unit) => (subl x2 4 (x2.length : Int)).bind fun x15 => (frame_number x15).bind fun x16 => (frame_behind (⟨x3, x4, x5⟩ : ApiTail) x7 x16).bind fun x17 => (a0 x1 (x7, x17)).bind fun x18 => if (!x18.1) = true then some x18.2 else (subl x2 (i64 (8 + (x6.toNat : Int))) (x2.length : Int)).bind fun x19 => frame_records_1_l1 a0 j x18.2 x19 x17.Count x17.Size x17.Sum) (fun (kj8 : Unit → Option XT) => (subl x2 0 4).bind fun x9 => (frame_sum (⟨x3, x4, x5⟩ : ApiTail) x9 x7).bind fun x10 => (subl x2 4 (x2.length : Int)).bind fun x11 => (frame_number x11).bind fun x12 => if (x10.toNat : Int) ≠ (x12.toNat : Int) then some x1 else kj8 ()) else some x1
def frame_records_1 {XT : Type} (a0 : (XT → ((List UInt8) × ApiTail) → Option (Bool × XT))) (a50 : XT) (a1 : (List UInt8)) : Option XT := frame_records_1_l1 a0 FU a50 a1 0 0 (0 : UInt32)
def frame_All (a0 : (List UInt8)) : Option ((List (List UInt8)) × ApiTail) := (frame_records a0).bind fun x1 => (frame_records_1 (stopC (fun (x2 : ((List (List UInt8)) × Int × Int × UInt32)) (x3 : ((List UInt8) × ApiTail)) => (slices_Clone_byte_byte x3.1).bind fun x9 => (app 5864062014805 x2.1 ([x9] : List (List UInt8))).bind fun x10 => some (true, (x10, x3.2.Count, x3.2.Size, x3.2.Sum)))) (false, ([], 0, 0, (0 : UInt32))) x1).bind fun x8 => some (x8.2.1, (⟨x8.2.2.1, x8.2.2.2.1, x8.2.2.2.2⟩ : ApiTail))
def slices_Grow_byte_byte_nl (a1 : Int) : Option (List UInt8) := if a1 < 0 then none else if 0 < i64 (a1 - 0) then if 0 < i64 (a1 - 0) then if i64 (a1 - 0) ≤ 140737488355328 then some ([] : List UInt8) else none else none else some ([])
def slices_Concat_byte_byte_l1 (a0 : (List (List UInt8))) (kj1 : (Int → Option (List UInt8))) : Nat → Int → Int → Option (List UInt8)
  | 0, _, _ => none
  | j + 1, x3, x4 => if x4 < (a0.length : Int) then (geti a0 x4).bind fun x5 => if i64 (x3 + (x5.length : Int)) < 0 then none else slices_Concat_byte_byte_l1 a0 kj1 j (i64 (x3 + (x5.length : Int))) (i64 (x4 + 1)) else kj1 x3
def slices_Concat_byte_byte_l2 (a0 : (List (List UInt8))) (kj7 : ((List UInt8) → Option (List UInt8))) : Nat → (List UInt8) → Int → Option (List UInt8)
  | 0, _, _ => none
  | j + 1, x9, x10 => if x10 < (a0.length : Int) then (geti a0 x10).bind fun x11 => (app 140737488355328 x9 x11).bind fun x12 => slices_Concat_byte_byte_l2 a0 kj7 j x12 (i64 (x10 + 1)) else kj7 x9
def slices_Concat_byte_byte (a0 : (List (List UInt8))) : Option (List UInt8) := jn (fun (x2 : Int) => (slices_Grow_byte_byte_nl x2).bind fun x6 => jn (fun (x8 : (List UInt8)) => some x8) (fun (kj7 : (List UInt8) → Option (List UInt8)) => slices_Concat_byte_byte_l2 a0 kj7 FU x6 0)) (fun (kj1 : Int → Option (List UInt8)) => slices_Concat_byte_byte_l1 a0 kj1 FU 0 0)
def slices_Grow_disk_picture_disk_file_nl (a1 : Int) : Option (List DiskFile) := if a1 < 0 then none else if 0 < i64 (a1 - 0) then if 0 < i64 (a1 - 0) then if i64 (a1 - 0) ≤ 3518437208883 then some ([] : List DiskFile) else none else none else some ([])
def slices_Concat_disk_picture_disk_file_l1 (a0 : (List (List DiskFile))) (kj1 : (Int → Option (List DiskFile))) : Nat → Int → Int → Option (List DiskFile)
  | 0, _, _ => none
  | j + 1, x3, x4 => if x4 < (a0.length : Int) then (geti a0 x4).bind fun x5 => if i64 (x3 + (x5.length : Int)) < 0 then none else slices_Concat_disk_picture_disk_file_l1 a0 kj1 j (i64 (x3 + (x5.length : Int))) (i64 (x4 + 1)) else kj1 x3
def slices_Concat_disk_picture_disk_file_l2 (a0 : (List (List DiskFile))) (kj7 : ((List DiskFile) → Option (List DiskFile))) : Nat → (List DiskFile) → Int → Option (List DiskFile)
  | 0, _, _ => none
  | j + 1, x9, x10 => if x10 < (a0.length : Int) then (geti a0 x10).bind fun x11 => (app 3518437208883 x9 x11).bind fun x12 => slices_Concat_disk_picture_disk_file_l2 a0 kj7 j x12 (i64 (x10 + 1)) else kj7 x9
def slices_Concat_disk_picture_disk_file (a0 : (List (List DiskFile))) : Option (List DiskFile) := jn (fun (x2 : Int) => (slices_Grow_disk_picture_disk_file_nl x2).bind fun x6 => jn (fun (x8 : (List DiskFile)) => some x8) (fun (kj7 : (List DiskFile) → Option (List DiskFile)) => slices_Concat_disk_picture_disk_file_l2 a0 kj7 FU x6 0)) (fun (kj1 : Int → Option (List DiskFile)) => slices_Concat_disk_picture_disk_file_l1 a0 kj1 FU 0 0)
def disk_picture_without (a0 : (List DiskFile)) (a1 : (List UInt8)) : Option (List DiskFile) := (disk_picture_find a0 a1).bind fun x1 => if (!x1.2) = true then some a0 else (subl a0 0 x1.1).bind fun x2 => (subl a0 (i64 (x1.1 + 1)) (a0.length : Int)).bind fun x3 => (slices_Concat_disk_picture_disk_file ([x2, x3] : List (List DiskFile))).bind fun x4 => some x4
def disk_picture_with (a0 : (List DiskFile)) (a1 : (List UInt8)) (a2 : (List UInt8)) : Option (List DiskFile) := (disk_picture_without a0 a1).bind fun x1 => (disk_picture_find x1 a1).bind fun x2 => (subl x1 0 x2.1).bind fun x3 => (subl x1 x2.1 (x1.length : Int)).bind fun x4 => (slices_Concat_disk_picture_disk_file ([x3, ([(⟨a1, a2⟩ : DiskFile)] : List DiskFile), x4] : List (List DiskFile))).bind fun x5 => some x5
def disk_adding_next (a0 : DiskAdding) (a1 : (List DiskFile)) : Option (List DiskFile) := (disk_picture_bytes a1 a0.file.name).bind fun x1 => (slices_Concat_byte_byte ([x1, a0.file.b] : List (List UInt8))).bind fun x2 => (disk_picture_with a1 a0.file.name x2).bind fun x3 => some x3
def disk_putting_next (a0 : DiskPutting) (a1 : (List DiskFile)) : Option (List DiskFile) := (disk_picture_with a1 a0.file.name a0.file.b).bind fun x1 => some x1
def DiskCall_next (c : DiskCall) (a1 : (List DiskFile)) : Option (List DiskFile) := match c with
  | .adding x => disk_adding_next x a1
  | .putting x => disk_putting_next x a1
def disk_Disk_does_nil (a1 : DiskCall) : Option Int := (disk_Disk_seen_nil).bind fun x1 => (DiskCall_next a1 x1).bind fun x2 => none
def disk_Disk_Put_nil (a1 : (List UInt8)) (a2 : (List UInt8)) : Option Int := (disk_Disk_first_nil ([a1] : List (List UInt8))).bind fun x1 => if x1 ≠ 0 then some x1 else (slices_Clone_byte_byte a2).bind fun x2 => (disk_Disk_does_nil (DiskCall.putting (⟨(⟨a1, x2⟩ : DiskFile)⟩ : DiskPutting))).bind fun x3 => some x3
def logfile_Open_nil (a1 : (List UInt8)) : Option ((Option LogfileLog) × Int) := (disk_Disk_Down_nil).bind fun x1 => if x1 = true then some (none, 12) else (disk_Disk_Read_nil a1).bind fun x2 => if x2.2 = 1 then some (none, x2.2) else (frame_All x2.1).bind fun x3 => if x3.2.Size = (x2.1.length : Int) then some (some (⟨(⟨()⟩ : LogfileHeld), a1, x3.1, x3.2⟩ : LogfileLog), 0) else (subl x2.1 0 x3.2.Size).bind fun x4 => (disk_Disk_Put_nil a1 x4).bind fun x5 => if x5 ≠ 0 then some (none, x5) else some (some (⟨(⟨()⟩ : LogfileHeld), a1, x3.1, x3.2⟩ : LogfileLog), 0)
def disk_New (a0 : Int) : Option ((Option DiskDisk) × Int) := if (a0 < 0) ∨ (65536 < a0) then some (none, 1) else some (some (⟨a0, true, false, ([[]] : List (List DiskFile)), [], (⟨0, 0, 0⟩ : DiskFuse)⟩ : DiskDisk), 0)
def disk_Disk_none (a0 : DiskDisk) : Option Bool := some (!a0.made)
def disk_Disk_Down (a0 : DiskDisk) : Option Bool := (disk_Disk_none a0).bind fun x1 => some (decide ((x1 = true) ∨ (a0.down = true)))
def disk_Disk_first_l1 (a1 : (List (List UInt8))) (kj2 : (Unit → Option Int)) : Nat → Int → Option Int
  | 0, _ => none
  | j + 1, x3 => if x3 < (a1.length : Int) then (geti a1 x3).bind fun x4 => (disk_name x4).bind fun x5 => if (!x5) = true then some 1 else disk_Disk_first_l1 a1 kj2 j (i64 (x3 + 1)) else kj2 ()
def disk_Disk_first (a0 : DiskDisk) (a1 : (List (List UInt8))) : Option Int := (disk_Disk_Down a0).bind fun x1 => if x1 = true then some 12 else jn (fun (_ : Unit) => some 0) (fun (kj2 : Unit → Option Int) => disk_Disk_first_l1 a1 kj2 FU 0)
def disk_Disk_seen (a0 : DiskDisk) : Option (List DiskFile) := (disk_Disk_Down a0).bind fun x1 => if x1 = true then some ([]) else (geti a0.pictures (i64 ((a0.pictures.length : Int) - 1))).bind fun x2 => some x2
def disk_Disk_there (a0 : DiskDisk) (a1 : (List UInt8)) (a2 : (List (List UInt8))) : Option Int := (app 8796093022208 a2 ([a1] : List (List UInt8))).bind fun x1 => (disk_Disk_first a0 x1).bind fun x2 => if x2 ≠ 0 then some x2 else (disk_Disk_seen a0).bind fun x3 => (disk_picture_find x3 a1).bind fun x4 => if (!x4.2) = true then some 4 else some 0
def disk_Disk_there_nl (a0 : DiskDisk) (a1 : (List UInt8)) : Option Int := (app 8796093022208 ([] : List (List UInt8)) ([a1] : List (List UInt8))).bind fun x1 => (disk_Disk_first a0 x1).bind fun x2 => if x2 ≠ 0 then some x2 else (disk_Disk_seen a0).bind fun x3 => (disk_picture_find x3 a1).bind fun x4 => if (!x4.2) = true then some 4 else some 0
def disk_Disk_Read (a0 : DiskDisk) (a1 : (List UInt8)) : Option ((List UInt8) × Int) := (disk_Disk_there_nl a0 a1).bind fun x1 => if x1 ≠ 0 then some ([], x1) else (disk_Disk_seen a0).bind fun x2 => (disk_picture_bytes x2 a1).bind fun x3 => (slices_Clone_byte_byte x3).bind fun x4 => some (x4, 0)
def disk_picture_sizes (a0 : (List DiskFile)) : Option (List DiskFile) := some a0
def disk_picture_sizes_1_l1 {XT : Type} (a1 : (List DiskFile)) (a0 : (XT → ((List UInt8) × Int) → Option (Bool × XT))) : Nat → Int → XT → Option XT
  | 0, _, _ => none
  | j + 1, x1, x2 => if x1 < (a1.length : Int) then (geti a1 x1).bind fun x3 => (a0 x2 (x3.name, (x3.b.length : Int))).bind fun x4 => if (!x4.1) = true then some x4.2 else disk_picture_sizes_1_l1 a1 a0 j (i64 (x1 + 1)) x4.2 else some x2
def disk_picture_sizes_1 {XT : Type} (a0 : (XT → ((List UInt8) × Int) → Option (Bool × XT))) (a50 : XT) (a1 : (List DiskFile)) : Option XT := disk_picture_sizes_1_l1 a1 a0 FU 0 a50
def disk_picture_size (a0 : (List DiskFile)) : Option Int := (disk_picture_sizes a0).bind fun x1 => (disk_picture_sizes_1 (stopC (fun (x2 : Int) (x3 : ((List UInt8) × Int)) => some (true, i64 (x2 + x3.2)))) (false, 0) x1).bind fun x5 => some x5.2
def disk_adding_torn (a0 : DiskAdding) (a1 : Int) : Option DiskCall := (subl a0.file.b 0 (min a1 (a0.file.b.length : Int))).bind fun x1 => some (DiskCall.adding (⟨(⟨a0.file.name, x1⟩ : DiskFile)⟩ : DiskAdding))
def disk_Disk_only (a0 : DiskDisk) (a1 : (List DiskFile)) : Option DiskDisk := some (⟨a0.capacity, a0.made, a0.down, ([a1] : List (List DiskFile)), [], a0.fuse⟩ : DiskDisk)
def disk_Disk_Crash (a0 : DiskDisk) (a1 : Int) (a2 : Int) : Option (Int × DiskDisk) := (disk_Disk_Down a0).bind fun x1 => if x1 = true then some (12, a0) else (geti a0.pictures (min (max a1 0) (a0.calls.length : Int))).bind fun x2 => jn (fun (x4 : (List DiskFile)) => (disk_Disk_only a0 x4).bind fun x9 => some (0, (⟨x9.capacity, x9.made, true, x9.pictures, x9.calls, (⟨0, 0, 0⟩ : DiskFuse)⟩ : DiskDisk))) (fun (kj3 : (List DiskFile) → Option (Int × DiskDisk)) => if min (max a1 0) (a0.calls.length : Int) < (a0.calls.length : Int) then (geti a0.calls (min (max a1 0) (a0.calls.length : Int))).bind fun x5 => oc (DiskCall.as_adding x5) (kj3 x2) fun x6 => if (0 < a2) ∧ (0 < (x6.file.b.length : Int)) then (disk_adding_torn x6 a2).bind fun x7 => (DiskCall_next x7 x2).bind fun x8 => kj3 x8 else kj3 x2 else kj3 x2)
def disk_Disk_burn (a0 : DiskDisk) : Option (Int × DiskDisk) := if a0.fuse.n = 0 then some (0, a0) else if a0.fuse.n = 1 then (disk_Disk_Crash a0 a0.fuse.keep a0.fuse.torn).bind fun x1 => some (12, x1.2) else some (0, (⟨a0.capacity, a0.made, a0.down, a0.pictures, a0.calls, (⟨i64 (a0.fuse.n - 1), a0.fuse.keep, a0.fuse.torn⟩ : DiskFuse)⟩ : DiskDisk))
def disk_Disk_does (a0 : DiskDisk) (a1 : DiskCall) : Option (Int × DiskDisk) := (disk_Disk_seen a0).bind fun x1 => (DiskCall_next a1 x1).bind fun x2 => (disk_picture_size x2).bind fun x3 => if a0.capacity < x3 then some (3, a0) else (app 5864062014805 a0.pictures ([x2] : List (List DiskFile))).bind fun x4 => (app 8796093022208 a0.calls ([a1] : List DiskCall)).bind fun x5 => (disk_Disk_burn (⟨a0.capacity, a0.made, a0.down, x4, x5, a0.fuse⟩ : DiskDisk)).bind fun x6 => some (x6.1, x6.2)
def disk_Disk_Put (a0 : DiskDisk) (a1 : (List UInt8)) (a2 : (List UInt8)) : Option (Int × DiskDisk) := (disk_Disk_first a0 ([a1] : List (List UInt8))).bind fun x1 => if x1 ≠ 0 then some (x1, a0) else (slices_Clone_byte_byte a2).bind fun x2 => (disk_Disk_does a0 (DiskCall.putting (⟨(⟨a1, x2⟩ : DiskFile)⟩ : DiskPutting))).bind fun x3 => some (x3.1, x3.2)
def logfile_Open (a0 : DiskDisk) (a1 : (List UInt8)) : Option ((Option LogfileLog) × Int × DiskDisk) := (disk_Disk_Down a0).bind fun x1 => if x1 = true then some (none, 12, a0) else (disk_Disk_Read a0 a1).bind fun x2 => if x2.2 = 1 then some (none, x2.2, a0) else (frame_All x2.1).bind fun x3 => if x3.2.Size = (x2.1.length : Int) then some (some (⟨(⟨()⟩ : LogfileHeld), a1, x3.1, x3.2⟩ : LogfileLog), 0, a0) else (subl x2.1 0 x3.2.Size).bind fun x4 => (disk_Disk_Put a0 a1 x4).bind fun x5 => if x5.1 ≠ 0 then some (none, x5.1, x5.2) else some (some (⟨(⟨()⟩ : LogfileHeld), a1, x3.1, x3.2⟩ : LogfileLog), 0, x5.2)
def logfile_Log_none_r1 (a0 : LogfileLog) (a1 : DiskDisk) : Option Bool := some false
def frame_Put (a0 : ApiTail) (a1 : (List UInt8)) : Option ((List UInt8) × ApiTail × Int) := if 16384 < (a1.length : Int) then some ([], (⟨0, 0, (0 : UInt32)⟩ : ApiTail), 6) else (frame_word (ofI32 (a1.length : Int))).bind fun x1 => (frame_sum a0 x1 a1).bind fun x2 => (frame_word x2).bind fun x3 => (slices_Concat_byte_byte ([x1, x3, a1] : List (List UInt8))).bind fun x4 => (frame_behind a0 a1 x2).bind fun x5 => some (x4, x5, 0)
def disk_Disk_Append (a0 : DiskDisk) (a1 : (List UInt8)) (a2 : (List UInt8)) : Option (Int × DiskDisk) := (disk_Disk_first a0 ([a1] : List (List UInt8))).bind fun x1 => if x1 ≠ 0 then some (x1, a0) else (slices_Clone_byte_byte a2).bind fun x2 => (disk_Disk_does a0 (DiskCall.adding (⟨(⟨a1, x2⟩ : DiskFile)⟩ : DiskAdding))).bind fun x3 => some (x3.1, x3.2)
def logfile_Log_Append_r2 (a0 : LogfileLog) (a1 : (List UInt8)) (a2 : DiskDisk) : Option (Int × LogfileLog × DiskDisk) := (logfile_Log_none_r1 a0 a2).bind fun x1 => (disk_Disk_Down a2).bind fun x2 => if x2 = true then some (12, a0, a2) else (frame_Put a0.tail a1).bind fun x3 => if x3.2.2 ≠ 0 then some (x3.2.2, a0, a2) else (disk_Disk_Append a2 a0.name x3.1).bind fun x4 => if x4.1 ≠ 0 then some (x4.1, a0, x4.2) else (slices_Clone_byte_byte a1).bind fun x5 => (app 5864062014805 a0.all_ ([x5] : List (List UInt8))).bind fun x6 => some (0, (⟨a0.on, a0.name, x6, x3.2.1⟩ : LogfileLog), x4.2)
def logfile_Log_Size_r1 (a0 : LogfileLog) (a1 : DiskDisk) : Option Int := (logfile_Log_none_r1 a0 a1).bind fun x1 => some a0.tail.Size
def logfile_Log_Count_r1 (a0 : LogfileLog) (a1 : DiskDisk) : Option Int := (logfile_Log_none_r1 a0 a1).bind fun x1 => some (a0.all_.length : Int)
def disk_Disk_Sync (a0 : DiskDisk) : Option (Int × DiskDisk) := (disk_Disk_Down a0).bind fun x1 => if x1 = true then some (12, a0) else (disk_Disk_burn a0).bind fun x2 => if x2.1 = 0 then (disk_Disk_seen x2.2).bind fun x3 => (disk_Disk_only x2.2 x3).bind fun x4 => some (x2.1, x4) else some (x2.1, x2.2)
def logfile_Log_Sync_r1 (a0 : LogfileLog) (a1 : DiskDisk) : Option (Int × DiskDisk) := (logfile_Log_none_r1 a0 a1).bind fun x1 => (disk_Disk_Sync a1).bind fun x2 => some (x2.1, x2.2)
def disk_Disk_Start (a0 : DiskDisk) : Option (Int × DiskDisk) := (disk_Disk_none a0).bind fun x1 => if x1 = true then some (1, a0) else if (!a0.down) = true then some (5, a0) else some (0, (⟨a0.capacity, a0.made, false, a0.pictures, a0.calls, a0.fuse⟩ : DiskDisk))
def slices_Clone_byte_byte_p (a0 : (List (List UInt8))) : Option (List (List UInt8)) := (app 5864062014805 ([] : List (List UInt8)) a0).bind fun x1 => some x1
def slices_Clone_byte_byte_o (a0 : (List (List UInt8))) : Option (List (List UInt8)) := (app 5864062014805 ([] : List (List UInt8)) a0).bind fun x1 => some x1
def logfile_Log_Records_r1_l1 (x2 : (List (List UInt8))) (kj3 : ((List (List UInt8)) → Option (List (List UInt8)))) : Nat → Int → (List (List UInt8)) → Option (List (List UInt8))
  | 0, _, _ => none
  | j + 1, x5, x6 => if x5 < (x2.length : Int) then (geti x6 x5).bind fun x7 => (slices_Clone_byte_byte x7).bind fun x8 => (geti x6 x5).bind fun x9 => logfile_Log_Records_r1_l1 x2 kj3 j (i64 (x5 + 1)) (x6.set (x5 : Int).toNat x8) else kj3 x6
def logfile_Log_Records_r1 (a0 : LogfileLog) (a1 : DiskDisk) : Option (List (List UInt8)) := (logfile_Log_none_r1 a0 a1).bind fun x1 => (slices_Clone_byte_byte_o a0.all_).bind fun x2 => jn (fun (x4 : (List (List UInt8))) => some x4) (fun (kj3 : (List (List UInt8)) → Option (List (List UInt8))) => logfile_Log_Records_r1_l1 x2 kj3 FU 0 x2)
def disk_Disk_Size (a0 : DiskDisk) (a1 : (List UInt8)) : Option Int := (disk_Disk_seen a0).bind fun x1 => (disk_picture_bytes x1 a1).bind fun x2 => some (x2.length : Int)
def law11_awake  : Option Bool := (disk_New 100).bind fun x1 => (x1.1).bind fun x2 => (logfile_Open x2 ([108, 111, 103] : List UInt8)).bind fun x3 => oc x3.1 (some false) fun x4 => if (x3.2.1 ≠ 0) ∨ False then some false else (logfile_Log_Append_r2 x4 ([(97 : UInt8)] : List UInt8) x3.2.2).bind fun x5 => (logfile_Log_Append_r2 x5.2.1 ([(98 : UInt8), (99 : UInt8)] : List UInt8) x5.2.2).bind fun x6 => (logfile_Log_Size_r1 x6.2.1 x6.2.2).bind fun x7 => (logfile_Log_Count_r1 x6.2.1 x6.2.2).bind fun x8 => (logfile_Log_Sync_r1 x6.2.1 x6.2.2).bind fun x9 => (logfile_Log_Append_r2 x6.2.1 ([(100 : UInt8)] : List UInt8) x9.2).bind fun x10 => (disk_Disk_Crash x10.2.2 0 3).bind fun x11 => (disk_Disk_Start x11.2).bind fun x12 => (logfile_Open x12.2 ([108, 111, 103] : List UInt8)).bind fun x13 => oc x13.1 (some false) fun x14 => if (x13.2.1 ≠ 0) ∨ False then some false else (logfile_Log_Records_r1 x14 x13.2.2).bind fun x15 => (if ((((x5.1 = 0) ∧ (x6.1 = 0)) ∧ (x7 = 19)) ∧ (x8 = 2)) ∧ ((x15.length : Int) = 2) then (geti x15 1).bind fun x17 => some (decide (x17 = ([98, 99] : List UInt8))) else some false).bind fun x16 => (if x16 = true then (disk_Disk_Size x13.2.2 ([108, 111, 103] : List UInt8)).bind fun x19 => some (decide (x19 = 19)) else some false).bind fun x18 => (if x18 = true then (makel 281474976710656 (0 : UInt8) 80).bind fun x21 => (logfile_Log_Append_r2 x14 x21 x13.2.2).bind fun x22 => some (decide (x22.1 = 3), x22.2.2, x22.2.1) else some (false, x13.2.2, x14)).bind fun x20 => (if x20.1 = true then (makel 281474976710656 (0 : UInt8) 16385).bind fun x24 => (logfile_Log_Append_r2 x20.2.2 x24 x20.2.1).bind fun x25 => some (decide (x25.1 = 6), x25.2.2, x25.2.1) else some (false, x20.2.1, x20.2.2)).bind fun x23 => some x23.1
def law11_LogfileNobody (a0 : (List UInt8)) (a1 : (List UInt8)) (a2 : Int) : Option Bool := jn (fun (_ : Unit) => (logfile_Open_nil a0).bind fun x26 => oc x26.1 ((if x26.2 = 12 then (law11_awake).bind fun x29 => some x29 else some false).bind fun x28 => some x28) fun x27 => some false) (fun (kj1 : Unit → Option Bool) => (logfile_Log_At_nil a2).bind fun x2 => (logfile_Log_Append_nil a1).bind fun x3 => (if x3 ≠ 12 then some true else (logfile_Log_Sync_nil).bind fun x5 => some (decide (x5 ≠ 12))).bind fun x4 => (if x4 = true then some true else (logfile_Log_Records_nil).bind fun x7 => some (decide ((x7.length : Int) ≠ 0))).bind fun x6 => (if ((x6 = true) ∨ ((x2.1.length : Int) ≠ 0)) ∨ (x2.2 = true) then some true else (logfile_Log_Count_nil).bind fun x9 => some (decide (x9 ≠ 0))).bind fun x8 => (if x8 = true then some true else (logfile_Log_Size_nil).bind fun x11 => some (decide (x11 ≠ 0))).bind fun x10 => (if x10 = true then some true else (logfile_Log_Name_nil).bind fun x13 => some (decide (x13 ≠ ([] : List UInt8)))).bind fun x12 => if x12 = true then some false else (logfile_Log_At_rn (⟨(⟨()⟩ : LogfileHeld), ([] : List UInt8), [], (⟨0, 0, (0 : UInt32)⟩ : ApiTail)⟩ : LogfileLog) a2).bind fun x14 => (logfile_Log_Append_rn (⟨(⟨()⟩ : LogfileHeld), ([] : List UInt8), [], (⟨0, 0, (0 : UInt32)⟩ : ApiTail)⟩ : LogfileLog) a1).bind fun x15 => (if x15 ≠ 12 then some true else (logfile_Log_Sync_rn (⟨(⟨()⟩ : LogfileHeld), ([] : List UInt8), [], (⟨0, 0, (0 : UInt32)⟩ : ApiTail)⟩ : LogfileLog)).bind fun x17 => some (decide (x17 ≠ 12))).bind fun x16 => (if x16 = true then some true else (logfile_Log_Records_rn (⟨(⟨()⟩ : LogfileHeld), ([] : List UInt8), [], (⟨0, 0, (0 : UInt32)⟩ : ApiTail)⟩ : LogfileLog)).bind fun x19 => some (decide ((x19.length : Int) ≠ 0))).bind fun x18 => (if ((x18 = true) ∨ ((x14.1.length : Int) ≠ 0)) ∨ (x14.2 = true) then some true else (logfile_Log_Count_rn (⟨(⟨()⟩ : LogfileHeld), ([] : List UInt8), [], (⟨0, 0, (0 : UInt32)⟩ : ApiTail)⟩ : LogfileLog)).bind fun x21 => some (decide (x21 ≠ 0))).bind fun x20 => (if x20 = true then some true else (logfile_Log_Size_rn (⟨(⟨()⟩ : LogfileHeld), ([] : List UInt8), [], (⟨0, 0, (0 : UInt32)⟩ : ApiTail)⟩ : LogfileLog)).bind fun x23 => some (decide (x23 ≠ 0))).bind fun x22 => (if x22 = true then some true else (logfile_Log_Name_rn (⟨(⟨()⟩ : LogfileHeld), ([] : List UInt8), [], (⟨0, 0, (0 : UInt32)⟩ : ApiTail)⟩ : LogfileLog)).bind fun x25 => some (decide (x25 ≠ ([] : List UInt8)))).bind fun x24 => if x24 = true then some false else kj1 ())
def law11_many_l1 (a0 : (List Law11Act)) (kj1 : (Unit → Option Bool)) : Nat → Int → Int → Option Bool
  | 0, _, _ => none
  | j + 1, x2, x3 => if x3 < (a0.length : Int) then (geti a0 x3).bind fun x4 => if 300 < i64 (x2 + (i64 (1 + (i64 ((x4.Bytes.length : Int).tdiv 128))))) then some true else law11_many_l1 a0 kj1 j (i64 (x2 + (i64 (1 + (i64 ((x4.Bytes.length : Int).tdiv 128)))))) (i64 (x3 + 1)) else kj1 ()
def law11_many (a0 : (List Law11Act)) : Option Bool := jn (fun (_ : Unit) => some false) (fun (kj1 : Unit → Option Bool) => law11_many_l1 a0 kj1 FU 0 0)
def disk_Disk_Bytes (a0 : DiskDisk) : Option Int := (disk_Disk_seen a0).bind fun x1 => (disk_picture_size x1).bind fun x2 => some x2
def disk_Disk_Waits (a0 : DiskDisk) : Option Int := (disk_Disk_Down a0).bind fun x1 => if x1 = true then some 0 else some (a0.calls.length : Int)
def logfile_Log_At_r2 (a0 : LogfileLog) (a1 : Int) (a2 : DiskDisk) : Option ((List UInt8) × Bool) := (logfile_Log_none_r1 a0 a2).bind fun x1 => if (a1 < 0) ∨ ((a0.all_.length : Int) ≤ a1) then some ([], false) else (geti a0.all_ a1).bind fun x2 => (slices_Clone_byte_byte x2).bind fun x3 => some (x3, true)
def law11_LogfileFull_l1 (a1 : (List Law11Act)) (a0 : Int) (kj8 : (DiskDisk → LogfileLog → Option Bool)) : Nat → Int → DiskDisk → LogfileLog → Option Bool
  | 0, _, _, _ => none
  | j + 1, x11, x12, x13 => if x11 < (a1.length : Int) then (logfile_Log_Size_r1 x13 x12).bind fun x14 => (logfile_Log_Count_r1 x13 x12).bind fun x15 => (disk_Disk_Bytes x12).bind fun x16 => (disk_Disk_Waits x12).bind fun x17 => (geti a1 x11).bind fun x18 => (logfile_Log_Append_r2 x13 x18.Bytes x12).bind fun x19 => if x19.1 = 0 then (logfile_Log_At_r2 x19.2.1 x15 x19.2.2).bind fun x20 => if (!x20.2) = true then some false else (geti a1 x11).bind fun x21 => if x20.1 ≠ x21.Bytes then some false else (logfile_Log_Count_r1 x19.2.1 x19.2.2).bind fun x22 => if x22 ≠ i64 (x15 + 1) then some false else (disk_Disk_Bytes x19.2.2).bind fun x23 => (logfile_Log_Size_r1 x19.2.1 x19.2.2).bind fun x24 => if i64 (x23 - x16) ≠ i64 (x24 - x14) then some false else (disk_Disk_Waits x19.2.2).bind fun x25 => if x25 ≠ i64 (x17 + 1) then some false else (disk_Disk_Bytes x19.2.2).bind fun x26 => if a0 < x26 then some false else law11_LogfileFull_l1 a1 a0 kj8 j (i64 (x11 + 1)) x19.2.2 x19.2.1 else jn (fun (x28 : Bool) => if x28 = true then (logfile_Log_Size_r1 x19.2.1 x19.2.2).bind fun x29 => (if x29 ≠ x14 then some true else (logfile_Log_Count_r1 x19.2.1 x19.2.2).bind fun x31 => some (decide (x31 ≠ x15))).bind fun x30 => (if x30 = true then some true else (disk_Disk_Bytes x19.2.2).bind fun x33 => some (decide (x33 ≠ x16))).bind fun x32 => (if x32 = true then some true else (disk_Disk_Waits x19.2.2).bind fun x35 => some (decide (x35 ≠ x17))).bind fun x34 => if x34 = true then some false else law11_LogfileFull_l1 a1 a0 kj8 j (i64 (x11 + 1)) x19.2.2 x19.2.1 else some false) (fun (kj27 : Bool → Option Bool) => if x19.1 = 3 then kj27 (decide (x19.1 = 3)) else kj27 (decide (x19.1 = 6))) else kj8 x12 x13
def law11_LogfileFull (a0 : Int) (a1 : (List Law11Act)) : Option Bool := (disk_New a0).bind fun x1 => (if x1.2 ≠ 0 then some true else (law11_many a1).bind fun x3 => some x3).bind fun x2 => if x2 = true then (law11_awake).bind fun x4 => some x4 else (x1.1).bind fun x5 => (logfile_Open x5 ([108, 111, 103] : List UInt8)).bind fun x6 => oc x6.1 (some false) fun x7 => if (x6.2.1 ≠ 0) ∨ False then some false else jn (fun (x9 : DiskDisk) (x10 : LogfileLog) => (law11_awake).bind fun x36 => some x36) (fun (kj8 : DiskDisk → LogfileLog → Option Bool) => law11_LogfileFull_l1 a1 a0 kj8 FU 0 x6.2.2 x7)
def disk_Disk_Fuse (a0 : DiskDisk) (a1 : Int) (a2 : Int) (a3 : Int) : Option (Int × DiskDisk) := (disk_Disk_Down a0).bind fun x1 => if x1 = true then some (12, a0) else if a1 < 0 then some (1, a0) else some (0, (⟨a0.capacity, a0.made, a0.down, a0.pictures, a0.calls, (⟨a1, a2, a3⟩ : DiskFuse)⟩ : DiskDisk))
def law11_opens (a0 : DiskDisk) (a1 : Int) (a2 : Int) : Option ((Option LogfileLog) × Bool × DiskDisk) := (disk_Disk_Crash a0 a1 a2).bind fun x1 => (disk_Disk_Start x1.2).bind fun x2 => (logfile_Open x2.2 ([108, 111, 103] : List UInt8)).bind fun x3 => jn (fun (x5 : (Option LogfileLog)) (x6 : Int) (x7 : DiskDisk) => oc x5 (some (none, false, x7)) fun x10 => some (some x10, decide ((x6 = 0) ∧ True), x7)) (fun (kj4 : (Option LogfileLog) → Int → DiskDisk → Option ((Option LogfileLog) × Bool × DiskDisk)) => if x3.2.1 = 12 then (disk_Disk_Start x3.2.2).bind fun x8 => (logfile_Open x8.2 ([108, 111, 103] : List UInt8)).bind fun x9 => kj4 x9.1 x9.2.1 x9.2.2 else kj4 x3.1 x3.2.1 x3.2.2)
def ref11_Same_l1 (a0 : (List (List UInt8))) (a1 : (List (List UInt8))) (kj1 : (Unit → Option Bool)) : Nat → Int → Option Bool
  | 0, _ => none
  | j + 1, x2 => if x2 < (a0.length : Int) then (geti a0 x2).bind fun x3 => (geti a1 x2).bind fun x4 => if x3 ≠ x4 then some false else ref11_Same_l1 a0 a1 kj1 j (i64 (x2 + 1)) else kj1 ()
def ref11_Same (a0 : (List (List UInt8))) (a1 : (List (List UInt8))) : Option Bool := if (a0.length : Int) ≠ (a1.length : Int) then some false else jn (fun (_ : Unit) => some true) (fun (kj1 : Unit → Option Bool) => ref11_Same_l1 a0 a1 kj1 FU 0)
def law11_LogfileLasts_l1 (a1 : (List Law11Act)) (kj8 : (DiskDisk → Option Bool)) : Nat → LogfileLog → Int → (List (List UInt8)) → Int → DiskDisk → Option Bool
  | 0, _, _, _, _, _ => none
  | j + 1, x10, x11, x12, x13, x14 => if x13 < (a1.length : Int) then (geti a1 x13).bind fun x15 => (disk_Disk_Down x14).bind fun x16 => jn (fun (x18 : Int) (x19 : (List (List UInt8))) (x20 : DiskDisk) (x21 : LogfileLog) => jn (fun (x28 : LogfileLog) (x29 : (List (List UInt8))) (x30 : DiskDisk) => (disk_Disk_Down x30).bind fun x49 => (if (!x49) = true then (logfile_Log_Records_r1 x28 x30).bind fun x51 => (ref11_Same x51 x29).bind fun x52 => some (!x52) else some false).bind fun x50 => if x50 = true then some false else law11_LogfileLasts_l1 a1 kj8 j x28 x18 x29 (i64 (x13 + 1)) x30) (fun (kj27 : LogfileLog → (List (List UInt8)) → DiskDisk → Option Bool) => (if x15.Do = 2 then some true else (disk_Disk_Down x20).bind fun x32 => some (decide ((x32 = true) ∧ (x13.tmod 3 = 0)))).bind fun x31 => if x31 = true then (law11_opens x20 x15.Keep x15.Torn).bind fun x33 => if (!x33.2.1) = true then some false else (x33.1).bind fun x34 => (logfile_Log_Records_r1 x34 x33.2.2).bind fun x35 => (if ((x35.length : Int) < x18) ∨ ((x19.length : Int) < (x35.length : Int)) then some true else (subl x19 0 (x35.length : Int)).bind fun x37 => (ref11_Same x35 x37).bind fun x38 => some (!x38)).bind fun x36 => if x36 = true then some false else (disk_Disk_Read x33.2.2 ([108, 111, 103] : List UInt8)).bind fun x39 => (logfile_Open x33.2.2 ([108, 111, 103] : List UInt8)).bind fun x40 => (disk_Disk_Read x40.2.2 ([108, 111, 103] : List UInt8)).bind fun x41 => oc x40.1 (some false) fun x42 => (if (x40.2.1 ≠ 0) ∨ False then some true else (logfile_Log_Records_r1 x42 x40.2.2).bind fun x44 => (ref11_Same x44 x35).bind fun x45 => some (!x45)).bind fun x43 => (if (x43 = true) ∨ (x39.1 ≠ x41.1) then some true else (logfile_Log_Size_r1 x42 x40.2.2).bind fun x47 => some (decide ((x41.1.length : Int) ≠ x47))).bind fun x46 => if x46 = true then some false else (subl x19 0 (x35.length : Int)).bind fun x48 => kj27 x42 x48 x40.2.2 else kj27 x21 x19 x20)) (fun (kj17 : Int → (List (List UInt8)) → DiskDisk → LogfileLog → Option Bool) => if x15.Do = 0 then (logfile_Log_Append_r2 x10 x15.Bytes x14).bind fun x22 => if (x22.1 = 0) ∨ (((!x16) = true) ∧ (x22.1 = 12)) then (app 140737488355328 ([] : List UInt8) x15.Bytes).bind fun x23 => (app 5864062014805 x12 ([x23] : List (List UInt8))).bind fun x24 => kj17 x11 x24 x22.2.2 x22.2.1 else kj17 x11 x12 x22.2.2 x22.2.1 else if x15.Do = 1 then (logfile_Log_Sync_r1 x10 x14).bind fun x25 => if x25.1 = 0 then kj17 (x12.length : Int) x12 x25.2 x10 else kj17 x11 x12 x25.2 x10 else if x15.Do = 6 then (disk_Disk_Fuse x14 x15.N x15.Keep x15.Torn).bind fun x26 => kj17 x11 x12 x26.2 x10 else kj17 x11 x12 x14 x10) else kj8 x14
def law11_LogfileLasts (a0 : Int) (a1 : (List Law11Act)) : Option Bool := (disk_New a0).bind fun x1 => (if x1.2 ≠ 0 then some true else (law11_many a1).bind fun x3 => some x3).bind fun x2 => if x2 = true then (law11_awake).bind fun x4 => some x4 else (x1.1).bind fun x5 => (logfile_Open x5 ([108, 111, 103] : List UInt8)).bind fun x6 => oc x6.1 (some false) fun x7 => if (x6.2.1 ≠ 0) ∨ False then some false else jn (fun (x9 : DiskDisk) => (law11_awake).bind fun x53 => some x53) (fun (kj8 : DiskDisk → Option Bool) => law11_LogfileLasts_l1 a1 kj8 FU x7 0 ([]) 0 x6.2.2)
end Go.Proofs
