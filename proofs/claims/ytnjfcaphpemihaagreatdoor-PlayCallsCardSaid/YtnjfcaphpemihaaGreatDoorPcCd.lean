/-
  A fact that the card wants, reckoned by itself (together they want more memory than a process may have). No further condition.
-/
import Derived.Test.YtnjfcaphpemihaaGreatDoorCards
import Derived.Test.YtnjfcaphpemihaaGreatDoorPcfP
import Derived.Test.YtnjfcaphpemihaaGreatDoorPcCb
namespace Go.Proofs.YtnjfcaphpemihaaGreatDoor.playCalls
open Go
set_option maxRecDepth 1000000
theorem goes3 : Tryz.prog.goes 3 = false := by
  unfold Program.goes
  rewrite [Pc.clo3, Pc.unf3]
  kernel_rfl
theorem c_goes : false = Rows.playCallsRow.goesBy Tryz.pinned.checked.prog := by
  show false = (Tryz.prog.goesFrom "lazarus/lazaruslaw26.PlayCalls" || false)
  unfold Program.goesFrom
  rewrite [c_name]
  rewrite [Option.any_some, goes3]
  rfl
end Go.Proofs.YtnjfcaphpemihaaGreatDoor.playCalls
