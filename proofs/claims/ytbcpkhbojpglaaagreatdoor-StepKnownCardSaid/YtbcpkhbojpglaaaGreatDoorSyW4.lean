/-
  Rows by hand, part 4: reckoned by the kernel.
-/
import Derived.Test.YtbcpkhbojpglaaaGreatDoorSyH
namespace Sy
open Go Go.Proofs Ev
set_option maxRecDepth 1000000
theorem C16 : runC (Int.ofNat 16) = true := by kernel_rfl
theorem C17 : runC (Int.ofNat 17) = true := by kernel_rfl
theorem C18 : runC (Int.ofNat 18) = true := by kernel_rfl
theorem C19 : runC (Int.ofNat 19) = true := by kernel_rfl
end Sy
