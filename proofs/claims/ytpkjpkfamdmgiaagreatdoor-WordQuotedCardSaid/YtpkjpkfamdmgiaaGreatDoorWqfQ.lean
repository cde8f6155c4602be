import Derived.Test.YtpkjpkfamdmgiaaGreatDoorWqfP
namespace Ws
open Go Go.Proofs Go.Proofs.YtpkjpkfamdmgiaaGreatDoor
set_option maxRecDepth 100000
theorem facts3 : joinedFacts Tryz.checked.prog 3 Tryz.f3 Rows.wordQuotedSpec Rows.wordQuotedRow = true := by
  show joinedFacts Tryz.prog 3 Tryz.f3 Rows.wordQuotedSpec Rows.wordQuotedRow = true
  unfold joinedFacts
  rewrite [inPlace3, unf3, rec3, vars3]
  kernel_rfl
end Ws
