import Derived.Test.YtgpdamhijknegaaGreatDoorRlP
namespace Rl
open Go Go.Proofs Go.Proofs.YtgpdamhijknegaaGreatDoor
set_option maxRecDepth 100000
theorem facts3 : joinedFacts Tryz.checked.prog 3 Tryz.f3 Rows.runLooksSpec Rows.runLooksRow = true := by
  show joinedFacts Tryz.prog 3 Tryz.f3 Rows.runLooksSpec Rows.runLooksRow = true
  unfold joinedFacts
  rewrite [inPlace3, unf3, rec3, vars3]
  kernel_rfl
end Rl
