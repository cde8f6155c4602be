import Derived.Test.YtbfdpfcofdgckaaGreatDoorBsfP
namespace Bs
open Go Go.Proofs Go.Proofs.YtbfdpfcofdgckaaGreatDoor
set_option maxRecDepth 100000
theorem facts3 : joinedFacts Tryz.checked.prog 3 Tryz.f3 Rows.builtShiftSpec Rows.builtShiftRow = true := by
  show joinedFacts Tryz.prog 3 Tryz.f3 Rows.builtShiftSpec Rows.builtShiftRow = true
  unfold joinedFacts
  rewrite [inPlace3, unf3, rec3, vars3]
  kernel_rfl
end Bs
