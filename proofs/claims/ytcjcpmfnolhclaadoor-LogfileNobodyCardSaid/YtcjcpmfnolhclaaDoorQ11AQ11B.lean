import Derived.Test.YtcjcpmfnolhclaaDoorP11D
set_option linter.unusedVariables false
set_option linter.unusedSimpArgs false
namespace Go.Proofs
open Go.Fw
set_option maxRecDepth 100000 in
theorem awake_true : law11_awake = some true := by
  decide +kernel
end Go.Proofs

set_option linter.unusedVariables false
set_option linter.unusedSimpArgs false
namespace Go.Proofs
open Go.Fw
/-! Nobody's log. -/
theorem open_nil (n : List UInt8) : logfile_Open_nil n = some (none, 12) := by
  unfold logfile_Open_nil
  have h : disk_Disk_Down_nil = some true := by decide +kernel
  rw [h, Option.bind_some, if_pos rfl]
theorem LogfileNobody_pure (n b : List UInt8) (i : Int) : law11_LogfileNobody n b i = some true := by
  unfold law11_LogfileNobody
  unfold jn
  have h1 : logfile_Log_At_nil i = some ([], false) := rfl
  have h2 : logfile_Log_Append_nil b = some 12 := rfl
  have h3 : logfile_Log_Sync_nil = some 12 := rfl
  have h4 : logfile_Log_Records_nil = some [] := rfl
  have h5 : logfile_Log_Count_nil = some 0 := rfl
  have h6 : logfile_Log_Size_nil = some 0 := rfl
  have h7 : logfile_Log_Name_nil = some [] := rfl
  have k1 : ∀ x, logfile_Log_At_rn x i = some ([], false) := fun _ => rfl
  have k2 : ∀ x, logfile_Log_Append_rn x b = some 12 := fun _ => rfl
  have k3 : ∀ x, logfile_Log_Sync_rn x = some 12 := fun _ => rfl
  have k4 : ∀ x, logfile_Log_Records_rn x = some [] := fun _ => rfl
  have k5 : ∀ x, logfile_Log_Count_rn x = some 0 := fun _ => rfl
  have k6 : ∀ x, logfile_Log_Size_rn x = some 0 := fun _ => rfl
  have k7 : ∀ x, logfile_Log_Name_rn x = some [] := fun _ => rfl
  simp only [h1, h2, h3, h4, h5, h6, h7, k1, k2, k3, k4, k5, k6, k7, open_nil, awake_true, Option.bind_some, oc]
  simp
end Go.Proofs
