/-
  Rows by hand, part 5: reckoned by the kernel.
-/
import Derived.Test.YtbcpkhbojpglaaaGreatDoorSyH
namespace Sy
open Go Go.Proofs Ev
set_option maxRecDepth 1000000
theorem C20 : runC (Int.ofNat 20) = true := by kernel_rfl
theorem C21 : runC (Int.ofNat 21) = true := by kernel_rfl
theorem Cn (n : Nat) : runC (Int.ofNat (n + 22)) = true := by kernel_rfl
theorem Cm (n : Nat) : runC (Int.negSucc n) = true := by kernel_rfl
end Sy
