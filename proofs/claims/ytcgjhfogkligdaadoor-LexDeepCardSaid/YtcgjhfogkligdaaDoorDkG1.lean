/-
  LexDeep: braces in braces, part 1: reckoned by the kernel.
-/
import Derived.Test.YtcgjhfogkligdaaDoorDkG0
namespace Dk
open Go Go.Proofs Ev
set_option maxRecDepth 1000000
theorem d16f : runD (Int.ofNat 16) false = true := by kernel_rfl
theorem d16t : runD (Int.ofNat 16) true = true := by kernel_rfl
theorem d16 (q : Bool) : runD (Int.ofNat 16) q = true := match q with
  | false => d16f
  | true => d16t
theorem d17f : runD (Int.ofNat 17) false = true := by kernel_rfl
theorem d17t : runD (Int.ofNat 17) true = true := by kernel_rfl
theorem d17 (q : Bool) : runD (Int.ofNat 17) q = true := match q with
  | false => d17f
  | true => d17t
theorem d18f : runD (Int.ofNat 18) false = true := by kernel_rfl
theorem d18t : runD (Int.ofNat 18) true = true := by kernel_rfl
theorem d18 (q : Bool) : runD (Int.ofNat 18) q = true := match q with
  | false => d18f
  | true => d18t
theorem d19f : runD (Int.ofNat 19) false = true := by kernel_rfl
theorem d19t : runD (Int.ofNat 19) true = true := by kernel_rfl
theorem d19 (q : Bool) : runD (Int.ofNat 19) q = true := match q with
  | false => d19f
  | true => d19t
theorem d20f : runD (Int.ofNat 20) false = true := by kernel_rfl
theorem d20t : runD (Int.ofNat 20) true = true := by kernel_rfl
theorem d20 (q : Bool) : runD (Int.ofNat 20) q = true := match q with
  | false => d20f
  | true => d20t
theorem d21f : runD (Int.ofNat 21) false = true := by kernel_rfl
theorem d21t : runD (Int.ofNat 21) true = true := by kernel_rfl
theorem d21 (q : Bool) : runD (Int.ofNat 21) q = true := match q with
  | false => d21f
  | true => d21t
theorem d22f : runD (Int.ofNat 22) false = true := by kernel_rfl
theorem d22t : runD (Int.ofNat 22) true = true := by kernel_rfl
theorem d22 (q : Bool) : runD (Int.ofNat 22) q = true := match q with
  | false => d22f
  | true => d22t
theorem d23f : runD (Int.ofNat 23) false = true := by kernel_rfl
theorem d23t : runD (Int.ofNat 23) true = true := by kernel_rfl
theorem d23 (q : Bool) : runD (Int.ofNat 23) q = true := match q with
  | false => d23f
  | true => d23t
end Dk
