import Derived.Test.YtnjfcaphpemihaaGreatDoorPcfP
namespace Pc
open Go Go.Proofs Go.Proofs.YtnjfcaphpemihaaGreatDoor
set_option maxRecDepth 100000
theorem facts3 : joinedFacts Tryz.checked.prog 3 Tryz.f3 Rows.playCallsSpec Rows.playCallsRow = true := by
  show joinedFacts Tryz.prog 3 Tryz.f3 Rows.playCallsSpec Rows.playCallsRow = true
  unfold joinedFacts
  rewrite [inPlace3, unf3, rec3, vars3]
  kernel_rfl
end Pc
