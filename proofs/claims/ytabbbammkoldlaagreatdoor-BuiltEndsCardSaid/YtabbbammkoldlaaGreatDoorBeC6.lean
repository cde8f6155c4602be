/-
  BuiltEnds, part 6: reckoned by the kernel.
-/
import Derived.Test.YtabbbammkoldlaaGreatDoorBeB
namespace Be
open Go Go.Proofs Ev
set_option maxRecDepth 1000000
theorem neg1x0 : neg 1 0 = true := by kernel_rfl
theorem neg1x1 : neg 1 1 = true := by kernel_rfl
theorem neg1x2 : neg 1 2 = true := by kernel_rfl
theorem neg1x3 : neg 1 3 = true := by kernel_rfl
theorem neg1x4 : neg 1 4 = true := by kernel_rfl
theorem neg1x5 : neg 1 5 = true := by kernel_rfl
theorem neg1x6 : neg 1 6 = true := by kernel_rfl
theorem neg1x7 : neg 1 7 = true := by kernel_rfl
theorem neg1x8 : neg 1 8 = true := by kernel_rfl
theorem neg1x9 : neg 1 9 = true := by kernel_rfl
end Be
