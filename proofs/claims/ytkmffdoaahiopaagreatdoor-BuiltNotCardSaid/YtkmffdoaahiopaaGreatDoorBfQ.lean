import Derived.Test.YtkmffdoaahiopaaGreatDoorBfP
namespace Bn
open Go Go.Proofs Go.Proofs.YtkmffdoaahiopaaGreatDoor
set_option maxRecDepth 100000
theorem facts3 : joinedFacts Tryz.checked.prog 3 Tryz.f3 Rows.builtNotSpec Rows.builtNotRow = true := by
  show joinedFacts Tryz.prog 3 Tryz.f3 Rows.builtNotSpec Rows.builtNotRow = true
  unfold joinedFacts
  rewrite [inPlace3, unf3, rec3, vars3]
  kernel_rfl
end Bn
