/-
  A fact that the card wants, reckoned by itself (together they want more memory than a process may have). No further condition.
-/
import Derived.Test.YtnjfcaphpemihaaGreatDoorCards
import Derived.SevenTiedAt
import Derived.KernelRfl
namespace Go.Proofs.YtnjfcaphpemihaaGreatDoor.playCalls
open Go
theorem c_looks : true = Tryz.pinned.checked.prog.looks [] := by kernel_rfl
end Go.Proofs.YtnjfcaphpemihaaGreatDoor.playCalls
