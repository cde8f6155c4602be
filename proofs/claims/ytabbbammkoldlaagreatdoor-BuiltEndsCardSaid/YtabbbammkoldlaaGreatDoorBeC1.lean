/-
  BuiltEnds, part 1: reckoned by the kernel.
-/
import Derived.Test.YtabbbammkoldlaaGreatDoorBeB
namespace Be
open Go Go.Proofs Ev
set_option maxRecDepth 1000000
theorem pos0x10 : pos 0 10 = true := by kernel_rfl
theorem pos0x11 : pos 0 11 = true := by kernel_rfl
theorem pos0x12 : pos 0 12 = true := by kernel_rfl
theorem pos0x13 : pos 0 13 = true := by kernel_rfl
theorem pos0x14 : pos 0 14 = true := by kernel_rfl
theorem pos0x15 : pos 0 15 = true := by kernel_rfl
theorem pos0x16 : pos 0 16 = true := by kernel_rfl
theorem pos0x17 : pos 0 17 = true := by kernel_rfl
theorem pos0x18 : pos 0 18 = true := by kernel_rfl
theorem pos0x19 : pos 0 19 = true := by kernel_rfl
theorem pos0x20 : pos 0 20 = true := by kernel_rfl
end Be
