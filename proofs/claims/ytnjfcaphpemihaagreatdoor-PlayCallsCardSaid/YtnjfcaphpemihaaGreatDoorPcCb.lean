/-
  A fact that the card wants, reckoned by itself (together they want more memory than a process may have). No further condition.
-/
import Derived.Test.YtnjfcaphpemihaaGreatDoorCards
import Derived.SevenTiedAt
import Derived.KernelRfl
namespace Go.Proofs.YtnjfcaphpemihaaGreatDoor.playCalls
open Go
theorem c_name : Tryz.prog.funcNamed "lazarus/lazaruslaw26.PlayCalls" = some 3 := by kernel_rfl
theorem c_stand : Tryz.prog.wantsStandIn 22 = false := by kernel_rfl
end Go.Proofs.YtnjfcaphpemihaaGreatDoor.playCalls
