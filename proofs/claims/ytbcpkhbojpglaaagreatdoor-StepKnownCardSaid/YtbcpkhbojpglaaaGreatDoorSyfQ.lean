import Derived.Test.YtbcpkhbojpglaaaGreatDoorSyfP
namespace Sy
open Go Go.Proofs Go.Proofs.YtbcpkhbojpglaaaGreatDoor
set_option maxRecDepth 100000
theorem facts3 : joinedFacts Tryz.checked.prog 3 Tryz.f3 Rows.stepKnownSpec Rows.stepKnownRow = true := by
  show joinedFacts Tryz.prog 3 Tryz.f3 Rows.stepKnownSpec Rows.stepKnownRow = true
  unfold joinedFacts
  rewrite [inPlace3, unf3, rec3, vars3]
  kernel_rfl
end Sy
