import Derived.Test.YtpkjpkfamdmgiaaGreatDoorWsfO
namespace Ws
open Go Go.Proofs Go.Proofs.YtpkjpkfamdmgiaaGreatDoor
theorem inPlace4 : Tryz.prog.inPlace 4 = Rows.wordSetsRow.inPlace := by
  unfold Program.inPlace; rewrite [clo4]; kernel_rfl
theorem unf4 : Tryz.prog.unfollowed 4 = true := by
  unfold Program.unfollowed; rewrite [clo4]; kernel_rfl
theorem rec4 : Tryz.prog.recurses 4 = true := by
  unfold Program.recurses; rewrite [unf4]; rfl
theorem vars4 : Tryz.prog.varsNamed 4 = Rows.wordSetsRow.named := by
  unfold Program.varsNamed; rewrite [clo4]; kernel_rfl
end Ws
