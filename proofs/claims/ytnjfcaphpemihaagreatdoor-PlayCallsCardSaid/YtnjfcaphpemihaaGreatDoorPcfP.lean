import Derived.Test.YtnjfcaphpemihaaGreatDoorPcfO
namespace Pc
open Go Go.Proofs Go.Proofs.YtnjfcaphpemihaaGreatDoor
theorem inPlace3 : Tryz.prog.inPlace 3 = Rows.playCallsRow.inPlace := by
  unfold Program.inPlace; rewrite [clo3]; kernel_rfl
theorem unf3 : Tryz.prog.unfollowed 3 = true := by
  unfold Program.unfollowed; rewrite [clo3]; kernel_rfl
theorem rec3 : Tryz.prog.recurses 3 = true := by
  unfold Program.recurses; rewrite [unf3]; rfl
theorem vars3 : Tryz.prog.varsNamed 3 = Rows.playCallsRow.named := by
  unfold Program.varsNamed; rewrite [clo3]; kernel_rfl
end Pc
