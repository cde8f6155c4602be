/-
  BuiltEnds, part 2: reckoned by the kernel.
-/
import Derived.Test.YtabbbammkoldlaaGreatDoorBeB
namespace Be
open Go Go.Proofs Ev
set_option maxRecDepth 1000000
theorem neg0x0 : neg 0 0 = true := by kernel_rfl
theorem neg0x1 : neg 0 1 = true := by kernel_rfl
theorem neg0x2 : neg 0 2 = true := by kernel_rfl
theorem neg0x3 : neg 0 3 = true := by kernel_rfl
theorem neg0x4 : neg 0 4 = true := by kernel_rfl
theorem neg0x5 : neg 0 5 = true := by kernel_rfl
theorem neg0x6 : neg 0 6 = true := by kernel_rfl
theorem neg0x7 : neg 0 7 = true := by kernel_rfl
theorem neg0x8 : neg 0 8 = true := by kernel_rfl
theorem neg0x9 : neg 0 9 = true := by kernel_rfl
end Be
