/-
  BuiltEnds, part 3: reckoned by the kernel.
-/
import Derived.Test.YtabbbammkoldlaaGreatDoorBeB
namespace Be
open Go Go.Proofs Ev
set_option maxRecDepth 1000000
theorem neg0x10 : neg 0 10 = true := by kernel_rfl
theorem neg0x11 : neg 0 11 = true := by kernel_rfl
theorem neg0x12 : neg 0 12 = true := by kernel_rfl
theorem neg0x13 : neg 0 13 = true := by kernel_rfl
theorem neg0x14 : neg 0 14 = true := by kernel_rfl
theorem neg0x15 : neg 0 15 = true := by kernel_rfl
theorem neg0x16 : neg 0 16 = true := by kernel_rfl
theorem neg0x17 : neg 0 17 = true := by kernel_rfl
theorem neg0x18 : neg 0 18 = true := by kernel_rfl
theorem neg0x19 : neg 0 19 = true := by kernel_rfl
end Be
