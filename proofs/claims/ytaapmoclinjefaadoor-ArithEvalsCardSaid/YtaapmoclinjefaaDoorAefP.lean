import Derived.Test.YtaapmoclinjefaaDoorAefO
namespace Ar
open Go Go.Proofs Go.Proofs.YtaapmoclinjefaaDoor
theorem inPlace3 : Tryd.prog.inPlace 3 = Rows.arithEvalsRow.inPlace := by
  unfold Program.inPlace; rewrite [clo3]; kernel_rfl
theorem unf3 : Tryd.prog.unfollowed 3 = true := by
  unfold Program.unfollowed; rewrite [clo3]; kernel_rfl
theorem rec3 : Tryd.prog.recurses 3 = true := by
  unfold Program.recurses; rewrite [unf3]; rfl
theorem vars3 : Tryd.prog.varsNamed 3 = Rows.arithEvalsRow.named := by
  unfold Program.varsNamed; rewrite [clo3]; kernel_rfl
end Ar
