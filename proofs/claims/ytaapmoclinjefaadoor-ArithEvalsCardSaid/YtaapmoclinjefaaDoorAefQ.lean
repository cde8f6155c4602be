import Derived.Test.YtaapmoclinjefaaDoorAefP
namespace Ar
open Go Go.Proofs Go.Proofs.YtaapmoclinjefaaDoor
set_option maxRecDepth 100000
theorem facts3 : joinedFacts Tryd.checked.prog 3 Tryd.f3 Rows.arithEvalsSpec Rows.arithEvalsRow = true := by
  show joinedFacts Tryd.prog 3 Tryd.f3 Rows.arithEvalsSpec Rows.arithEvalsRow = true
  unfold joinedFacts
  rewrite [inPlace3, unf3, rec3, vars3]
  kernel_rfl
end Ar
