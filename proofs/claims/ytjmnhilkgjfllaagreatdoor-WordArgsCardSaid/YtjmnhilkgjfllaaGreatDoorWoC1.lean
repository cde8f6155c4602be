/-
  WordArgs, part 1: reckoned by the kernel.
-/
import Derived.Test.YtjmnhilkgjfllaaGreatDoorWoB
namespace Wo
open Go Go.Proofs Ev
set_option maxRecDepth 1000000
theorem g0 : runA (Int.ofNat 0) = true := by kernel_rfl
theorem g3 : runA (Int.ofNat 3) = true := by kernel_rfl
theorem g8 : runA (Int.ofNat 8) = true := by kernel_rfl
theorem g11 : runA (Int.ofNat 11) = true := by kernel_rfl
theorem g16 : runA (Int.ofNat 16) = true := by kernel_rfl
theorem g19 : runA (Int.ofNat 19) = true := by kernel_rfl
theorem g24 : runA (Int.ofNat 24) = true := by kernel_rfl
theorem g27 : runA (Int.ofNat 27) = true := by kernel_rfl
theorem g32 : runA (Int.ofNat 32) = true := by kernel_rfl
theorem g35 : runA (Int.ofNat 35) = true := by kernel_rfl
theorem g40 : runA (Int.ofNat 40) = true := by kernel_rfl
theorem g43 : runA (Int.ofNat 43) = true := by kernel_rfl
theorem g48 : runA (Int.ofNat 48) = true := by kernel_rfl
theorem g51 : runA (Int.ofNat 51) = true := by kernel_rfl
theorem g56 : runA (Int.ofNat 56) = true := by kernel_rfl
theorem g59 : runA (Int.ofNat 59) = true := by kernel_rfl
theorem g64 : runA (Int.ofNat 64) = true := by kernel_rfl
theorem g67 : runA (Int.ofNat 67) = true := by kernel_rfl
theorem g72 : runA (Int.ofNat 72) = true := by kernel_rfl
theorem g75 : runA (Int.ofNat 75) = true := by kernel_rfl
theorem g80 : runA (Int.ofNat 80) = true := by kernel_rfl
theorem g83 : runA (Int.ofNat 83) = true := by kernel_rfl
theorem g88 : runA (Int.ofNat 88) = true := by kernel_rfl
theorem g91 : runA (Int.ofNat 91) = true := by kernel_rfl
theorem g96 : runA (Int.ofNat 96) = true := by kernel_rfl
theorem g99 : runA (Int.ofNat 99) = true := by kernel_rfl
theorem g104 : runA (Int.ofNat 104) = true := by kernel_rfl
end Wo
