/-
  LexDeep: braces in braces, part 3: reckoned by the kernel.
-/
import Derived.Test.YtcgjhfogkligdaaDoorDkG2
namespace Dk
open Go Go.Proofs Ev
set_option maxRecDepth 1000000
theorem d30f : runD (Int.ofNat 30) false = true := by kernel_rfl
theorem d30t : runD (Int.ofNat 30) true = true := by kernel_rfl
theorem d30 (q : Bool) : runD (Int.ofNat 30) q = true := match q with
  | false => d30f
  | true => d30t
theorem d31f : runD (Int.ofNat 31) false = true := by kernel_rfl
theorem d31t : runD (Int.ofNat 31) true = true := by kernel_rfl
theorem d31 (q : Bool) : runD (Int.ofNat 31) q = true := match q with
  | false => d31f
  | true => d31t
theorem d32f : runD (Int.ofNat 32) false = true := by kernel_rfl
theorem d32t : runD (Int.ofNat 32) true = true := by kernel_rfl
theorem d32 (q : Bool) : runD (Int.ofNat 32) q = true := match q with
  | false => d32f
  | true => d32t
theorem d33f : runD (Int.ofNat 33) false = true := by kernel_rfl
theorem d33t : runD (Int.ofNat 33) true = true := by kernel_rfl
theorem d33 (q : Bool) : runD (Int.ofNat 33) q = true := match q with
  | false => d33f
  | true => d33t
theorem d34f : runD (Int.ofNat 34) false = true := by kernel_rfl
theorem d34t : runD (Int.ofNat 34) true = true := by kernel_rfl
theorem d34 (q : Bool) : runD (Int.ofNat 34) q = true := match q with
  | false => d34f
  | true => d34t
theorem d35f : runD (Int.ofNat 35) false = true := by kernel_rfl
theorem d35t : runD (Int.ofNat 35) true = true := by kernel_rfl
theorem d35 (q : Bool) : runD (Int.ofNat 35) q = true := match q with
  | false => d35f
  | true => d35t
end Dk
