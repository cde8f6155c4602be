import Derived.Test.YtaapmoclinjefaaDoorAbfP
namespace Ar
open Go Go.Proofs Go.Proofs.YtaapmoclinjefaaDoor
set_option maxRecDepth 100000
theorem facts5 : joinedFacts Tryd.checked.prog 5 Tryd.f5 Rows.arithBlanksSpec Rows.arithBlanksRow = true := by
  show joinedFacts Tryd.prog 5 Tryd.f5 Rows.arithBlanksSpec Rows.arithBlanksRow = true
  unfold joinedFacts
  rewrite [inPlace5, unf5, rec5, vars5]
  kernel_rfl
end Ar
