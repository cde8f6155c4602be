/-
  BuiltEnds, part 4: reckoned by the kernel.
-/
import Derived.Test.YtabbbammkoldlaaGreatDoorBeB
namespace Be
open Go Go.Proofs Ev
set_option maxRecDepth 1000000
theorem pos1x0 : pos 1 0 = true := by kernel_rfl
theorem pos1x1 : pos 1 1 = true := by kernel_rfl
theorem pos1x2 : pos 1 2 = true := by kernel_rfl
theorem pos1x3 : pos 1 3 = true := by kernel_rfl
theorem pos1x4 : pos 1 4 = true := by kernel_rfl
theorem pos1x5 : pos 1 5 = true := by kernel_rfl
theorem pos1x6 : pos 1 6 = true := by kernel_rfl
theorem pos1x7 : pos 1 7 = true := by kernel_rfl
theorem pos1x8 : pos 1 8 = true := by kernel_rfl
theorem pos1x9 : pos 1 9 = true := by kernel_rfl
end Be
