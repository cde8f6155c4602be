import Derived.Test.YtbfdpfcofdgckaaGreatDoorBrfP
namespace Br
open Go Go.Proofs Go.Proofs.YtbfdpfcofdgckaaGreatDoor
set_option maxRecDepth 100000
theorem facts4 : joinedFacts Tryz.checked.prog 4 Tryz.f4 Rows.builtReadSpec Rows.builtReadRow = true := by
  show joinedFacts Tryz.prog 4 Tryz.f4 Rows.builtReadSpec Rows.builtReadRow = true
  unfold joinedFacts
  rewrite [inPlace4, unf4, rec4, vars4]
  kernel_rfl
end Br
