/-
  Rows by hand, part 2: reckoned by the kernel.
-/
import Derived.Test.YtbcpkhbojpglaaaGreatDoorSyH
namespace Sy
open Go Go.Proofs Ev
set_option maxRecDepth 1000000
theorem C6 : runC (Int.ofNat 6) = true := by kernel_rfl
theorem C7 : runC (Int.ofNat 7) = true := by kernel_rfl
theorem C8 : runC (Int.ofNat 8) = true := by kernel_rfl
theorem C9 : runC (Int.ofNat 9) = true := by kernel_rfl
end Sy
