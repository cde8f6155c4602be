/-
  WordArgs, part 0: reckoned by the kernel.
-/
import Derived.Test.YtjmnhilkgjfllaaGreatDoorWoB
namespace Wo
open Go Go.Proofs Ev
set_option maxRecDepth 1000000
theorem g1 : runA (Int.ofNat 1) = true := by kernel_rfl
theorem g2 : runA (Int.ofNat 2) = true := by kernel_rfl
theorem g9 : runA (Int.ofNat 9) = true := by kernel_rfl
theorem g10 : runA (Int.ofNat 10) = true := by kernel_rfl
theorem g17 : runA (Int.ofNat 17) = true := by kernel_rfl
theorem g18 : runA (Int.ofNat 18) = true := by kernel_rfl
theorem g25 : runA (Int.ofNat 25) = true := by kernel_rfl
theorem g26 : runA (Int.ofNat 26) = true := by kernel_rfl
theorem g33 : runA (Int.ofNat 33) = true := by kernel_rfl
theorem g34 : runA (Int.ofNat 34) = true := by kernel_rfl
theorem g41 : runA (Int.ofNat 41) = true := by kernel_rfl
theorem g42 : runA (Int.ofNat 42) = true := by kernel_rfl
theorem g49 : runA (Int.ofNat 49) = true := by kernel_rfl
theorem g50 : runA (Int.ofNat 50) = true := by kernel_rfl
theorem g57 : runA (Int.ofNat 57) = true := by kernel_rfl
theorem g58 : runA (Int.ofNat 58) = true := by kernel_rfl
theorem g65 : runA (Int.ofNat 65) = true := by kernel_rfl
theorem g66 : runA (Int.ofNat 66) = true := by kernel_rfl
theorem g73 : runA (Int.ofNat 73) = true := by kernel_rfl
theorem g74 : runA (Int.ofNat 74) = true := by kernel_rfl
theorem g81 : runA (Int.ofNat 81) = true := by kernel_rfl
theorem g82 : runA (Int.ofNat 82) = true := by kernel_rfl
theorem g89 : runA (Int.ofNat 89) = true := by kernel_rfl
theorem g90 : runA (Int.ofNat 90) = true := by kernel_rfl
theorem g97 : runA (Int.ofNat 97) = true := by kernel_rfl
theorem g98 : runA (Int.ofNat 98) = true := by kernel_rfl
theorem g105 : runA (Int.ofNat 105) = true := by kernel_rfl
end Wo
