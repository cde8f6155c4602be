/-
  Rows by hand, part 0: reckoned by the kernel.
-/
import Derived.Test.YtbcpkhbojpglaaaGreatDoorSyH
namespace Sy
open Go Go.Proofs Ev
set_option maxRecDepth 1000000
theorem C0 : runC (Int.ofNat 0) = true := by kernel_rfl
theorem C1 : runC (Int.ofNat 1) = true := by kernel_rfl
theorem C2 : runC (Int.ofNat 2) = true := by kernel_rfl
end Sy
