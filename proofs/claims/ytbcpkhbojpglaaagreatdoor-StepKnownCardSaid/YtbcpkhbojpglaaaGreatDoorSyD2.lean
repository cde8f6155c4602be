import Derived.Test.YtbcpkhbojpglaaaGreatDoorSyC
namespace Sy
open Go Go.Proofs Ev
set_option maxRecDepth 1000000
theorem calls100 : Calls_ 100 10 := by unfold Calls_; kernel_rfl
theorem calls110 : Calls_ 110 10 := by unfold Calls_; kernel_rfl
theorem calls120 : Calls_ 120 10 := by unfold Calls_; kernel_rfl
theorem calls130 : Calls_ 130 10 := by unfold Calls_; kernel_rfl
theorem calls140 : Calls_ 140 10 := by unfold Calls_; kernel_rfl
end Sy
