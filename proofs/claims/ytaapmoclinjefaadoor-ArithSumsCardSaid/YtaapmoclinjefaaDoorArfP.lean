import Derived.Test.YtaapmoclinjefaaDoorArfO
namespace Ar
open Go Go.Proofs Go.Proofs.YtaapmoclinjefaaDoor
theorem inPlace4 : Tryd.prog.inPlace 4 = Rows.arithSumsRow.inPlace := by
  unfold Program.inPlace; rewrite [clo4]; kernel_rfl
theorem unf4 : Tryd.prog.unfollowed 4 = true := by
  unfold Program.unfollowed; rewrite [clo4]; kernel_rfl
theorem rec4 : Tryd.prog.recurses 4 = true := by
  unfold Program.recurses; rewrite [unf4]; rfl
theorem vars4 : Tryd.prog.varsNamed 4 = Rows.arithSumsRow.named := by
  unfold Program.varsNamed; rewrite [clo4]; kernel_rfl
end Ar
