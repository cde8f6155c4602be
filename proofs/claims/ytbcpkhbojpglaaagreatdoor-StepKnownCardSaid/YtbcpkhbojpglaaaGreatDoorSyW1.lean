/-
  Rows by hand, part 1: reckoned by the kernel.
-/
import Derived.Test.YtbcpkhbojpglaaaGreatDoorSyH
namespace Sy
open Go Go.Proofs Ev
set_option maxRecDepth 1000000
theorem C3 : runC (Int.ofNat 3) = true := by kernel_rfl
theorem C4 : runC (Int.ofNat 4) = true := by kernel_rfl
theorem C5 : runC (Int.ofNat 5) = true := by kernel_rfl
end Sy
