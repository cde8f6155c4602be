import Derived.Test.YtpkjpkfamdmgiaaGreatDoorWsfP
namespace Ws
open Go Go.Proofs Go.Proofs.YtpkjpkfamdmgiaaGreatDoor
set_option maxRecDepth 100000
theorem facts4 : joinedFacts Tryz.checked.prog 4 Tryz.f4 Rows.wordSetsSpec Rows.wordSetsRow = true := by
  show joinedFacts Tryz.prog 4 Tryz.f4 Rows.wordSetsSpec Rows.wordSetsRow = true
  unfold joinedFacts
  rewrite [inPlace4, unf4, rec4, vars4]
  kernel_rfl
end Ws
