import Derived.Test.YtbcpkhbojpglaaaGreatDoorSyC
namespace Sy
open Go Go.Proofs Ev
set_option maxRecDepth 1000000
theorem calls0 : Calls_ 0 10 := by unfold Calls_; kernel_rfl
theorem calls10 : Calls_ 10 10 := by unfold Calls_; kernel_rfl
theorem calls20 : Calls_ 20 10 := by unfold Calls_; kernel_rfl
theorem calls30 : Calls_ 30 10 := by unfold Calls_; kernel_rfl
theorem calls40 : Calls_ 40 10 := by unfold Calls_; kernel_rfl
end Sy
