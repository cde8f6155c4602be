/-
  LexDeep: braces in braces, part 0: reckoned by the kernel.
-/
import Derived.Test.YtcgjhfogkligdaaDoorDkE
namespace Dk
open Go Go.Proofs Ev
set_option maxRecDepth 1000000
noncomputable abbrev runD (a : Int) (q : Bool) : Bool := isTrue (runF (envOf Tryd.prog exts8 kps) 20 (1000 + 1) 5 [.c (.int .i64 a), .c (.bool q)] (st0 [] Tryd.prog.globals.size))
theorem d0f : runD (Int.ofNat 0) false = true := by kernel_rfl
theorem d0t : runD (Int.ofNat 0) true = true := by kernel_rfl
theorem d0 (q : Bool) : runD (Int.ofNat 0) q = true := match q with
  | false => d0f
  | true => d0t
theorem d1f : runD (Int.ofNat 1) false = true := by kernel_rfl
theorem d1t : runD (Int.ofNat 1) true = true := by kernel_rfl
theorem d1 (q : Bool) : runD (Int.ofNat 1) q = true := match q with
  | false => d1f
  | true => d1t
theorem d2f : runD (Int.ofNat 2) false = true := by kernel_rfl
theorem d2t : runD (Int.ofNat 2) true = true := by kernel_rfl
theorem d2 (q : Bool) : runD (Int.ofNat 2) q = true := match q with
  | false => d2f
  | true => d2t
theorem d3f : runD (Int.ofNat 3) false = true := by kernel_rfl
theorem d3t : runD (Int.ofNat 3) true = true := by kernel_rfl
theorem d3 (q : Bool) : runD (Int.ofNat 3) q = true := match q with
  | false => d3f
  | true => d3t
theorem d4f : runD (Int.ofNat 4) false = true := by kernel_rfl
theorem d4t : runD (Int.ofNat 4) true = true := by kernel_rfl
theorem d4 (q : Bool) : runD (Int.ofNat 4) q = true := match q with
  | false => d4f
  | true => d4t
theorem d5f : runD (Int.ofNat 5) false = true := by kernel_rfl
theorem d5t : runD (Int.ofNat 5) true = true := by kernel_rfl
theorem d5 (q : Bool) : runD (Int.ofNat 5) q = true := match q with
  | false => d5f
  | true => d5t
theorem d6f : runD (Int.ofNat 6) false = true := by kernel_rfl
theorem d6t : runD (Int.ofNat 6) true = true := by kernel_rfl
theorem d6 (q : Bool) : runD (Int.ofNat 6) q = true := match q with
  | false => d6f
  | true => d6t
theorem d7f : runD (Int.ofNat 7) false = true := by kernel_rfl
theorem d7t : runD (Int.ofNat 7) true = true := by kernel_rfl
theorem d7 (q : Bool) : runD (Int.ofNat 7) q = true := match q with
  | false => d7f
  | true => d7t
theorem d8f : runD (Int.ofNat 8) false = true := by kernel_rfl
theorem d8t : runD (Int.ofNat 8) true = true := by kernel_rfl
theorem d8 (q : Bool) : runD (Int.ofNat 8) q = true := match q with
  | false => d8f
  | true => d8t
theorem d9f : runD (Int.ofNat 9) false = true := by kernel_rfl
theorem d9t : runD (Int.ofNat 9) true = true := by kernel_rfl
theorem d9 (q : Bool) : runD (Int.ofNat 9) q = true := match q with
  | false => d9f
  | true => d9t
theorem d10f : runD (Int.ofNat 10) false = true := by kernel_rfl
theorem d10t : runD (Int.ofNat 10) true = true := by kernel_rfl
theorem d10 (q : Bool) : runD (Int.ofNat 10) q = true := match q with
  | false => d10f
  | true => d10t
theorem d11f : runD (Int.ofNat 11) false = true := by kernel_rfl
theorem d11t : runD (Int.ofNat 11) true = true := by kernel_rfl
theorem d11 (q : Bool) : runD (Int.ofNat 11) q = true := match q with
  | false => d11f
  | true => d11t
theorem d12f : runD (Int.ofNat 12) false = true := by kernel_rfl
theorem d12t : runD (Int.ofNat 12) true = true := by kernel_rfl
theorem d12 (q : Bool) : runD (Int.ofNat 12) q = true := match q with
  | false => d12f
  | true => d12t
theorem d13f : runD (Int.ofNat 13) false = true := by kernel_rfl
theorem d13t : runD (Int.ofNat 13) true = true := by kernel_rfl
theorem d13 (q : Bool) : runD (Int.ofNat 13) q = true := match q with
  | false => d13f
  | true => d13t
theorem d14f : runD (Int.ofNat 14) false = true := by kernel_rfl
theorem d14t : runD (Int.ofNat 14) true = true := by kernel_rfl
theorem d14 (q : Bool) : runD (Int.ofNat 14) q = true := match q with
  | false => d14f
  | true => d14t
theorem d15f : runD (Int.ofNat 15) false = true := by kernel_rfl
theorem d15t : runD (Int.ofNat 15) true = true := by kernel_rfl
theorem d15 (q : Bool) : runD (Int.ofNat 15) q = true := match q with
  | false => d15f
  | true => d15t
end Dk
