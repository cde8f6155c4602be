/-
  WordArgs, part 3: reckoned by the kernel.
-/
import Derived.Test.YtjmnhilkgjfllaaGreatDoorWoB
namespace Wo
open Go Go.Proofs Ev
set_option maxRecDepth 1000000
theorem g5 : runA (Int.ofNat 5) = true := by kernel_rfl
theorem g6 : runA (Int.ofNat 6) = true := by kernel_rfl
theorem g13 : runA (Int.ofNat 13) = true := by kernel_rfl
theorem g14 : runA (Int.ofNat 14) = true := by kernel_rfl
theorem g21 : runA (Int.ofNat 21) = true := by kernel_rfl
theorem g22 : runA (Int.ofNat 22) = true := by kernel_rfl
theorem g29 : runA (Int.ofNat 29) = true := by kernel_rfl
theorem g30 : runA (Int.ofNat 30) = true := by kernel_rfl
theorem g37 : runA (Int.ofNat 37) = true := by kernel_rfl
theorem g38 : runA (Int.ofNat 38) = true := by kernel_rfl
theorem g45 : runA (Int.ofNat 45) = true := by kernel_rfl
theorem g46 : runA (Int.ofNat 46) = true := by kernel_rfl
theorem g53 : runA (Int.ofNat 53) = true := by kernel_rfl
theorem g54 : runA (Int.ofNat 54) = true := by kernel_rfl
theorem g61 : runA (Int.ofNat 61) = true := by kernel_rfl
theorem g62 : runA (Int.ofNat 62) = true := by kernel_rfl
theorem g69 : runA (Int.ofNat 69) = true := by kernel_rfl
theorem g70 : runA (Int.ofNat 70) = true := by kernel_rfl
theorem g77 : runA (Int.ofNat 77) = true := by kernel_rfl
theorem g78 : runA (Int.ofNat 78) = true := by kernel_rfl
theorem g85 : runA (Int.ofNat 85) = true := by kernel_rfl
theorem g86 : runA (Int.ofNat 86) = true := by kernel_rfl
theorem g93 : runA (Int.ofNat 93) = true := by kernel_rfl
theorem g94 : runA (Int.ofNat 94) = true := by kernel_rfl
theorem g101 : runA (Int.ofNat 101) = true := by kernel_rfl
theorem g102 : runA (Int.ofNat 102) = true := by kernel_rfl
end Wo
