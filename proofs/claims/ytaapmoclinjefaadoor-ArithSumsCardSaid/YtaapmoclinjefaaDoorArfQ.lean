import Derived.Test.YtaapmoclinjefaaDoorArfP
namespace Ar
open Go Go.Proofs Go.Proofs.YtaapmoclinjefaaDoor
set_option maxRecDepth 100000
theorem facts4 : joinedFacts Tryd.checked.prog 4 Tryd.f4 Rows.arithSumsSpec Rows.arithSumsRow = true := by
  show joinedFacts Tryd.prog 4 Tryd.f4 Rows.arithSumsSpec Rows.arithSumsRow = true
  unfold joinedFacts
  rewrite [inPlace4, unf4, rec4, vars4]
  kernel_rfl
end Ar
