import Derived.Test.YtoeanjoenlghlaaDoorP05
set_option linter.unusedVariables false
set_option linter.unusedSimpArgs false
namespace Go.Proofs
open Go.Fw
set_option maxRecDepth 100000 in
theorem awake_true : law05_awake = some true := by
  with_unfolding_all decide
def zD : DiskDisk := ⟨0, false, false, [], [], ⟨0, 0, 0⟩⟩
theorem zFirst (a : List (List UInt8)) : disk_Disk_first zD a = some 12 := rfl
theorem zThere (a b : List UInt8) : disk_Disk_there zD a [b] = some 12 := rfl
theorem zThere1 (a : List UInt8) : disk_Disk_there_nl zD a = some 12 := rfl
theorem zDown : disk_Disk_Down zD = some true := rfl
theorem zSync : disk_Disk_Sync zD = some (12, zD) := rfl
theorem zCrash (a b : Int) : disk_Disk_Crash zD a b = some (12, zD) := rfl
theorem zStart : disk_Disk_Start zD = some (1, zD) := rfl
theorem zFuse (a b c : Int) : disk_Disk_Fuse zD a b c = some (12, zD) := rfl
theorem nFirst (a : List (List UInt8)) : disk_Disk_first_nil a = some 12 := rfl
theorem nThere (a b : List UInt8) : disk_Disk_there_nil a [b] = some 12 := rfl
theorem nThere1 (a : List UInt8) : disk_Disk_there_nil_nl a = some 12 := rfl
theorem FU_succ : ∃ J, FU = J + 1 := ⟨FU - 1, by have : 1 ≤ FU := Nat.le_trans (by decide) FU_ge; omega⟩
theorem zCall (c : Law05Call) : law05_call zD c = some (if c.Do = 6 then 1 else 12, zD) := by
  unfold law05_call
  by_cases h0 : c.Do = 0
  · simp [h0, disk_Disk_Append, zFirst]
  by_cases h1 : c.Do = 1
  · simp [h1, disk_Disk_Put, zFirst]
  by_cases h2 : c.Do = 2
  · simp [h2, disk_Disk_Rename, zThere]
  by_cases h3 : c.Do = 3
  · simp [h3, disk_Disk_Remove, zThere1]
  by_cases h4 : c.Do = 4
  · simp [h4, zSync]
  by_cases h5 : c.Do = 5
  · simp [h5, zCrash]
  by_cases h6 : c.Do = 6
  · simp [h6, zStart]
  by_cases h7 : c.Do = 7
  · simp [h7, zFuse]
  obtain ⟨J, hJ⟩ := FU_succ
  simp [h0, h1, h2, h3, h4, h5, h6, h7, disk_Disk_Read, zThere1, jn, hJ, law05_call_l1]
theorem nCall (c : Law05Call) : law05_call_nil c = some (if c.Do = 6 then 1 else 12) := by
  unfold law05_call_nil
  by_cases h0 : c.Do = 0
  · simp [h0, disk_Disk_Append_nil, nFirst]
  by_cases h1 : c.Do = 1
  · simp [h1, disk_Disk_Put_nil, nFirst]
  by_cases h2 : c.Do = 2
  · simp [h2, disk_Disk_Rename_nil, nThere]
  by_cases h3 : c.Do = 3
  · simp [h3, disk_Disk_Remove_nil, nThere1]
  by_cases h4 : c.Do = 4
  · simp [h4, disk_Disk_Sync_nil, disk_Disk_Down_nil, disk_Disk_none_nil]
  by_cases h5 : c.Do = 5
  · simp [h5, disk_Disk_Crash_nil, disk_Disk_Down_nil, disk_Disk_none_nil]
  by_cases h6 : c.Do = 6
  · simp [h6, disk_Disk_Start_nil, disk_Disk_Down_nil, disk_Disk_none_nil]
  by_cases h7 : c.Do = 7
  · simp [h7, disk_Disk_Fuse_nil, disk_Disk_Down_nil, disk_Disk_none_nil]
  obtain ⟨J, hJ⟩ := FU_succ
  simp [h0, h1, h2, h3, h4, h5, h6, h7, disk_Disk_Read_nil, nThere1, jn, hJ, law05_call_nil_l1]
theorem zNames : disk_Disk_Names zD = some [] := by with_unfolding_all rfl
theorem zBytes : disk_Disk_Bytes zD = some 0 := by with_unfolding_all rfl
theorem find_nil (a : List UInt8) : disk_picture_find [] a = some (0, false) := by
  obtain ⟨J, hJ⟩ := FU_succ
  unfold disk_picture_find slices_BinarySearchFunc_disk_picture_disk_file_string_f72
  simp [jn, hJ, slices_BinarySearchFunc_disk_picture_disk_file_string_f72_l1]
theorem bytes_nil (a : List UInt8) : disk_picture_bytes [] a = some [] := by
  unfold disk_picture_bytes; simp [find_nil]
theorem zSize (a : List UInt8) : disk_Disk_Size zD a = some 0 := by
  unfold disk_Disk_Size
  rw [show disk_Disk_seen zD = some [] from rfl]
  simp [bytes_nil]
theorem nSize (a : List UInt8) : disk_Disk_Size_nil a = some 0 := by
  unfold disk_Disk_Size_nil
  rw [show disk_Disk_seen_nil = some [] from rfl]
  simp [bytes_nil]
theorem nNames : disk_Disk_Names_nil = some [] := by with_unfolding_all rfl
theorem nBytes : disk_Disk_Bytes_nil = some 0 := by with_unfolding_all rfl
theorem DiskNobody_pure (c : Law05Call) : law05_DiskNobody c = some true := by
  unfold law05_DiskNobody
  have e : (⟨0, false, false, [], [], (⟨0, 0, 0⟩ : DiskFuse)⟩ : DiskDisk) = zD := rfl
  rw [e]
  have w0 : disk_Disk_Waits zD = some 0 := rfl
  have w1 : disk_Disk_Capacity zD = some 0 := rfl
  have w2 : disk_Disk_Copy zD = some none := rfl
  by_cases h : c.Do = 6
  · simp [jn, h, nCall, zCall, zNames, zBytes, zSize, nSize, nNames, nBytes, zDown, disk_Disk_Down_nil, disk_Disk_none_nil, disk_Disk_Waits_nil, disk_Disk_Capacity_nil, disk_Disk_Copy_nil, oc, w0, w1, w2, awake_true]
  · simp [jn, h, nCall, zCall, zNames, zBytes, zSize, nSize, nNames, nBytes, zDown, disk_Disk_Down_nil, disk_Disk_none_nil, disk_Disk_Waits_nil, disk_Disk_Capacity_nil, disk_Disk_Copy_nil, oc, w0, w1, w2, awake_true]
end Go.Proofs
