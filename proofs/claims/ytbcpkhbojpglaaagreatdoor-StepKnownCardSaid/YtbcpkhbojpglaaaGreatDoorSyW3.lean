/-
  Rows by hand, part 3: reckoned by the kernel.
-/
import Derived.Test.YtbcpkhbojpglaaaGreatDoorSyH
namespace Sy
open Go Go.Proofs Ev
set_option maxRecDepth 1000000
theorem C10 : runC (Int.ofNat 10) = true := by kernel_rfl
theorem C11 : runC (Int.ofNat 11) = true := by kernel_rfl
theorem C12 : runC (Int.ofNat 12) = true := by kernel_rfl
theorem C13 : runC (Int.ofNat 13) = true := by kernel_rfl
theorem C14 : runC (Int.ofNat 14) = true := by kernel_rfl
theorem C15 : runC (Int.ofNat 15) = true := by kernel_rfl
end Sy
