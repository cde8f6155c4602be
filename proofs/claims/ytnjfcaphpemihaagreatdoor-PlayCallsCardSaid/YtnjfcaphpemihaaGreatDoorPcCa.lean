/-
  A fact that the card wants, reckoned by itself (together they want more memory than a process may have). No further condition.
-/
import Derived.Test.YtnjfcaphpemihaaGreatDoorCards
import Derived.SevenTiedAt
import Derived.KernelRfl
namespace Go.Proofs.YtnjfcaphpemihaaGreatDoor.playCalls
open Go
theorem c_wf : Rows.playCallsRow.wfByText (OpenSpec.ofChange Rows.playCallsSpec) = true := by kernel_rfl
theorem c_main : Tryz.pinned.checked.prog.mainIs = some (((true, "c1572edfddfaa369cdcd6154b6e7d49faac39086b15bec40546b4f1d5cb1e6d1") : Bool × String).1, ((true, "c1572edfddfaa369cdcd6154b6e7d49faac39086b15bec40546b4f1d5cb1e6d1") : Bool × String).2.toList) := by kernel_rfl
end Go.Proofs.YtnjfcaphpemihaaGreatDoor.playCalls
