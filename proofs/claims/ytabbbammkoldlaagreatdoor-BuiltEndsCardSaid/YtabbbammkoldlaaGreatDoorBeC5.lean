/-
  BuiltEnds, part 5: reckoned by the kernel.
-/
import Derived.Test.YtabbbammkoldlaaGreatDoorBeB
namespace Be
open Go Go.Proofs Ev
set_option maxRecDepth 1000000
theorem pos1x10 : pos 1 10 = true := by kernel_rfl
theorem pos1x11 : pos 1 11 = true := by kernel_rfl
theorem pos1x12 : pos 1 12 = true := by kernel_rfl
theorem pos1x13 : pos 1 13 = true := by kernel_rfl
theorem pos1x14 : pos 1 14 = true := by kernel_rfl
theorem pos1x15 : pos 1 15 = true := by kernel_rfl
theorem pos1x16 : pos 1 16 = true := by kernel_rfl
theorem pos1x17 : pos 1 17 = true := by kernel_rfl
theorem pos1x18 : pos 1 18 = true := by kernel_rfl
theorem pos1x19 : pos 1 19 = true := by kernel_rfl
theorem pos1x20 : pos 1 20 = true := by kernel_rfl
end Be
