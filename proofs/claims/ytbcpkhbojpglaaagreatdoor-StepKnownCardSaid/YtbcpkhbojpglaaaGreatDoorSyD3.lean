import Derived.Test.YtbcpkhbojpglaaaGreatDoorSyC
namespace Sy
open Go Go.Proofs Ev
set_option maxRecDepth 1000000
theorem calls150 : Calls_ 150 10 := by unfold Calls_; kernel_rfl
theorem calls160 : Calls_ 160 10 := by unfold Calls_; kernel_rfl
theorem calls170 : Calls_ 170 10 := by unfold Calls_; kernel_rfl
theorem calls180 : Calls_ 180 10 := by unfold Calls_; kernel_rfl
theorem calls190 : Calls_ 190 10 := by unfold Calls_; kernel_rfl
end Sy
