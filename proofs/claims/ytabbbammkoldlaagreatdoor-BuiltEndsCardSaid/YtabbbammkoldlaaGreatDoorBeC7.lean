/-
  BuiltEnds, part 7: reckoned by the kernel.
-/
import Derived.Test.YtabbbammkoldlaaGreatDoorBeB
namespace Be
open Go Go.Proofs Ev
set_option maxRecDepth 1000000
theorem neg1x10 : neg 1 10 = true := by kernel_rfl
theorem neg1x11 : neg 1 11 = true := by kernel_rfl
theorem neg1x12 : neg 1 12 = true := by kernel_rfl
theorem neg1x13 : neg 1 13 = true := by kernel_rfl
theorem neg1x14 : neg 1 14 = true := by kernel_rfl
theorem neg1x15 : neg 1 15 = true := by kernel_rfl
theorem neg1x16 : neg 1 16 = true := by kernel_rfl
theorem neg1x17 : neg 1 17 = true := by kernel_rfl
theorem neg1x18 : neg 1 18 = true := by kernel_rfl
theorem neg1x19 : neg 1 19 = true := by kernel_rfl
end Be
