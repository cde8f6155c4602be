/-
  BuiltEnds, part 0: reckoned by the kernel.
-/
import Derived.Test.YtabbbammkoldlaaGreatDoorBeB
namespace Be
open Go Go.Proofs Ev
set_option maxRecDepth 1000000
theorem pos0x0 : pos 0 0 = true := by kernel_rfl
theorem pos0x1 : pos 0 1 = true := by kernel_rfl
theorem pos0x2 : pos 0 2 = true := by kernel_rfl
theorem pos0x3 : pos 0 3 = true := by kernel_rfl
theorem pos0x4 : pos 0 4 = true := by kernel_rfl
theorem pos0x5 : pos 0 5 = true := by kernel_rfl
theorem pos0x6 : pos 0 6 = true := by kernel_rfl
theorem pos0x7 : pos 0 7 = true := by kernel_rfl
theorem pos0x8 : pos 0 8 = true := by kernel_rfl
theorem pos0x9 : pos 0 9 = true := by kernel_rfl
end Be
