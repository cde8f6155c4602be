/-
  LexDeep: braces in braces, part 2: reckoned by the kernel.
-/
import Derived.Test.YtcgjhfogkligdaaDoorDkG1
namespace Dk
open Go Go.Proofs Ev
set_option maxRecDepth 1000000
theorem d24f : runD (Int.ofNat 24) false = true := by kernel_rfl
theorem d24t : runD (Int.ofNat 24) true = true := by kernel_rfl
theorem d24 (q : Bool) : runD (Int.ofNat 24) q = true := match q with
  | false => d24f
  | true => d24t
theorem d25f : runD (Int.ofNat 25) false = true := by kernel_rfl
theorem d25t : runD (Int.ofNat 25) true = true := by kernel_rfl
theorem d25 (q : Bool) : runD (Int.ofNat 25) q = true := match q with
  | false => d25f
  | true => d25t
theorem d26f : runD (Int.ofNat 26) false = true := by kernel_rfl
theorem d26t : runD (Int.ofNat 26) true = true := by kernel_rfl
theorem d26 (q : Bool) : runD (Int.ofNat 26) q = true := match q with
  | false => d26f
  | true => d26t
theorem d27f : runD (Int.ofNat 27) false = true := by kernel_rfl
theorem d27t : runD (Int.ofNat 27) true = true := by kernel_rfl
theorem d27 (q : Bool) : runD (Int.ofNat 27) q = true := match q with
  | false => d27f
  | true => d27t
theorem d28f : runD (Int.ofNat 28) false = true := by kernel_rfl
theorem d28t : runD (Int.ofNat 28) true = true := by kernel_rfl
theorem d28 (q : Bool) : runD (Int.ofNat 28) q = true := match q with
  | false => d28f
  | true => d28t
theorem d29f : runD (Int.ofNat 29) false = true := by kernel_rfl
theorem d29t : runD (Int.ofNat 29) true = true := by kernel_rfl
theorem d29 (q : Bool) : runD (Int.ofNat 29) q = true := match q with
  | false => d29f
  | true => d29t
end Dk
