/-
  LexDeep: braces in braces, part 4: reckoned by the kernel.
-/
import Derived.Test.YtcgjhfogkligdaaDoorDkG3
namespace Dk
open Go Go.Proofs Ev
set_option maxRecDepth 1000000
theorem d36f : runD (Int.ofNat 36) false = true := by kernel_rfl
theorem d36t : runD (Int.ofNat 36) true = true := by kernel_rfl
theorem d36 (q : Bool) : runD (Int.ofNat 36) q = true := match q with
  | false => d36f
  | true => d36t
theorem d37f : runD (Int.ofNat 37) false = true := by kernel_rfl
theorem d37t : runD (Int.ofNat 37) true = true := by kernel_rfl
theorem d37 (q : Bool) : runD (Int.ofNat 37) q = true := match q with
  | false => d37f
  | true => d37t
theorem d38f : runD (Int.ofNat 38) false = true := by kernel_rfl
theorem d38t : runD (Int.ofNat 38) true = true := by kernel_rfl
theorem d38 (q : Bool) : runD (Int.ofNat 38) q = true := match q with
  | false => d38f
  | true => d38t
theorem d39f : runD (Int.ofNat 39) false = true := by kernel_rfl
theorem d39t : runD (Int.ofNat 39) true = true := by kernel_rfl
theorem d39 (q : Bool) : runD (Int.ofNat 39) q = true := match q with
  | false => d39f
  | true => d39t
theorem d40f : runD (Int.ofNat 40) false = true := by kernel_rfl
theorem d40t : runD (Int.ofNat 40) true = true := by kernel_rfl
theorem d40 (q : Bool) : runD (Int.ofNat 40) q = true := match q with
  | false => d40f
  | true => d40t
theorem dn (n : Nat) (q : Bool) : runD (Int.ofNat (n + 41)) q = true := by kernel_rfl
theorem dm (n : Nat) (q : Bool) : runD (Int.negSucc n) q = true := by kernel_rfl
theorem dAll (a : Int) (q : Bool) : runD a q = true := match a with
  | .ofNat 0 => d0 q
  | .ofNat 1 => d1 q
  | .ofNat 2 => d2 q
  | .ofNat 3 => d3 q
  | .ofNat 4 => d4 q
  | .ofNat 5 => d5 q
  | .ofNat 6 => d6 q
  | .ofNat 7 => d7 q
  | .ofNat 8 => d8 q
  | .ofNat 9 => d9 q
  | .ofNat 10 => d10 q
  | .ofNat 11 => d11 q
  | .ofNat 12 => d12 q
  | .ofNat 13 => d13 q
  | .ofNat 14 => d14 q
  | .ofNat 15 => d15 q
  | .ofNat 16 => d16 q
  | .ofNat 17 => d17 q
  | .ofNat 18 => d18 q
  | .ofNat 19 => d19 q
  | .ofNat 20 => d20 q
  | .ofNat 21 => d21 q
  | .ofNat 22 => d22 q
  | .ofNat 23 => d23 q
  | .ofNat 24 => d24 q
  | .ofNat 25 => d25 q
  | .ofNat 26 => d26 q
  | .ofNat 27 => d27 q
  | .ofNat 28 => d28 q
  | .ofNat 29 => d29 q
  | .ofNat 30 => d30 q
  | .ofNat 31 => d31 q
  | .ofNat 32 => d32 q
  | .ofNat 33 => d33 q
  | .ofNat 34 => d34 q
  | .ofNat 35 => d35 q
  | .ofNat 36 => d36 q
  | .ofNat 37 => d37 q
  | .ofNat 38 => d38 q
  | .ofNat 39 => d39 q
  | .ofNat 40 => d40 q
  | .ofNat (n + 41) => dn n q
  | .negSucc n => dm n q
theorem walkD (a : Int) (q : Bool) (w : World) : Yes 5 #[.int .i64 a, .bool q] w :=
  law_true_g any_ok types_ok fns_ok exts8_ok [] rfl (by kernel_rfl) (dAll a q) (fun _ => .cons rfl (.cons rfl .nil)) w (none_held w)
end Dk
