import Derived.Test.YtkdicklkghgdpaaP22
set_option linter.unusedVariables false
set_option linter.unusedSimpArgs false
namespace Go.Proofs
open Go.Fw
theorem awake_true : law22_awake = some true := by
  with_unfolding_all decide
theorem sendNil (a b : Int) (l : List UInt8) : net_Net_Send_nil a b l = some (0, 1) := by
  unfold net_Net_Send_nil net_Net_Replicas_nil net_Net_none_nil
  by_cases h : min a b < 1
  · simp [h]
  · have h2 : 0 < max a b := by omega
    simp [h, h2]
def zNet : NetNet := ⟨0, (0 : UInt64), none, (List.replicate 16 0)⟩
theorem sendZ (a b : Int) (l : List UInt8) : net_Net_Send zNet a b l = some (0, 1, zNet) := by
  have e : net_Net_Replicas zNet = some 0 := rfl
  unfold net_Net_Send
  by_cases h : min a b < 1
  · simp [h]
  · have h2 : 0 < max a b := by omega
    simp [h, h2, e]
theorem repZ : net_Net_Replicas zNet = some 0 := rfl
theorem cntZ : net_Net_Count zNet = some 0 := rfl
theorem letZ : net_Net_Letters zNet = some [] := rfl
theorem copZ : net_Net_Copy zNet = some none := rfl
theorem delNil (i : UInt64) : net_Net_Deliver_nil i = some (⟨0, 0, []⟩, 4) := rfl
theorem dblNil (i : UInt64) : net_Net_Double_nil i = some (0, 4) := rfl
theorem atNil (i : UInt64) : net_Net_At_nil i = some (⟨0, 0, []⟩, 4) := rfl
theorem dropNil (i : UInt64) : net_Net_Drop_nil i = some 4 := rfl
theorem delZ (i : UInt64) : net_Net_Deliver zNet i = some (⟨0, 0, []⟩, 4, zNet) := rfl
theorem dblZ (i : UInt64) : net_Net_Double zNet i = some (0, 4, zNet) := rfl
theorem atZ (i : UInt64) : net_Net_At zNet i = some (⟨0, 0, []⟩, 4) := rfl
theorem dropZ (i : UInt64) : net_Net_Drop zNet i = some (4, zNet) := rfl
theorem NetNobody_pure (x : Law22Call) : law22_NetNobody x = some true := by
  unfold law22_NetNobody
  have e : (⟨0, (0 : UInt64), none, (List.replicate 16 0)⟩ : NetNet) = zNet := rfl
  rw [e]
  simp only [jn, sendNil, sendZ, delNil, dblNil, atNil, dropNil, delZ, dblZ, atZ, dropZ, repZ, cntZ, letZ, copZ, Option.bind_some]
  simp [oc, awake_true, net_Net_Replicas_nil, net_Net_Count_nil, net_Net_none_nil, net_Net_Letters_nil, net_Net_Copy_nil, dropZ, repZ, cntZ, letZ, copZ]
end Go.Proofs
