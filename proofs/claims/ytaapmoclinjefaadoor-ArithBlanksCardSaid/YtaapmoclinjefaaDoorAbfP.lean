import Derived.Test.YtaapmoclinjefaaDoorAbfO
namespace Ar
open Go Go.Proofs Go.Proofs.YtaapmoclinjefaaDoor
theorem inPlace5 : Tryd.prog.inPlace 5 = Rows.arithBlanksRow.inPlace := by
  unfold Program.inPlace; rewrite [clo5]; kernel_rfl
theorem unf5 : Tryd.prog.unfollowed 5 = true := by
  unfold Program.unfollowed; rewrite [clo5]; kernel_rfl
theorem rec5 : Tryd.prog.recurses 5 = true := by
  unfold Program.recurses; rewrite [unf5]; rfl
theorem vars5 : Tryd.prog.varsNamed 5 = Rows.arithBlanksRow.named := by
  unfold Program.varsNamed; rewrite [clo5]; kernel_rfl
end Ar
