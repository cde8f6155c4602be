/-
  WordArgs, part 2: reckoned by the kernel.
-/
import Derived.Test.YtjmnhilkgjfllaaGreatDoorWoB
namespace Wo
open Go Go.Proofs Ev
set_option maxRecDepth 1000000
theorem g4 : runA (Int.ofNat 4) = true := by kernel_rfl
theorem g7 : runA (Int.ofNat 7) = true := by kernel_rfl
theorem g12 : runA (Int.ofNat 12) = true := by kernel_rfl
theorem g15 : runA (Int.ofNat 15) = true := by kernel_rfl
theorem g20 : runA (Int.ofNat 20) = true := by kernel_rfl
theorem g23 : runA (Int.ofNat 23) = true := by kernel_rfl
theorem g28 : runA (Int.ofNat 28) = true := by kernel_rfl
theorem g31 : runA (Int.ofNat 31) = true := by kernel_rfl
theorem g36 : runA (Int.ofNat 36) = true := by kernel_rfl
theorem g39 : runA (Int.ofNat 39) = true := by kernel_rfl
theorem g44 : runA (Int.ofNat 44) = true := by kernel_rfl
theorem g47 : runA (Int.ofNat 47) = true := by kernel_rfl
theorem g52 : runA (Int.ofNat 52) = true := by kernel_rfl
theorem g55 : runA (Int.ofNat 55) = true := by kernel_rfl
theorem g60 : runA (Int.ofNat 60) = true := by kernel_rfl
theorem g63 : runA (Int.ofNat 63) = true := by kernel_rfl
theorem g68 : runA (Int.ofNat 68) = true := by kernel_rfl
theorem g71 : runA (Int.ofNat 71) = true := by kernel_rfl
theorem g76 : runA (Int.ofNat 76) = true := by kernel_rfl
theorem g79 : runA (Int.ofNat 79) = true := by kernel_rfl
theorem g84 : runA (Int.ofNat 84) = true := by kernel_rfl
theorem g87 : runA (Int.ofNat 87) = true := by kernel_rfl
theorem g92 : runA (Int.ofNat 92) = true := by kernel_rfl
theorem g95 : runA (Int.ofNat 95) = true := by kernel_rfl
theorem g100 : runA (Int.ofNat 100) = true := by kernel_rfl
theorem g103 : runA (Int.ofNat 103) = true := by kernel_rfl
end Wo
