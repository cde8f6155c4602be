import Derived.Test.YtbcpkhbojpglaaaGreatDoorSyC
namespace Sy
open Go Go.Proofs Ev
set_option maxRecDepth 1000000
theorem calls50 : Calls_ 50 10 := by unfold Calls_; kernel_rfl
theorem calls60 : Calls_ 60 10 := by unfold Calls_; kernel_rfl
theorem calls70 : Calls_ 70 10 := by unfold Calls_; kernel_rfl
theorem calls80 : Calls_ 80 10 := by unfold Calls_; kernel_rfl
theorem calls90 : Calls_ 90 10 := by unfold Calls_; kernel_rfl
end Sy
