/-
  The program's ties, fact by fact (the seat's own text for them wants more memory than a process may have). No further condition.
-/
import Derived.Test.YtnjfcaphpemihaaGreatDoorPcU
namespace Go.Proofs.YtnjfcaphpemihaaGreatDoor.playCalls
open Go
theorem t_h1 : ∀ os tape, (DataW.laidRun Tryz.prog (varsWorld Tryz.prog 400 (varsId Tryz.prog) os tape).memory 8 (tl.map (·.1))).map (·.1) = some tl := by intro os tape; rw [vid]; kernel_rfl
end Go.Proofs.YtnjfcaphpemihaaGreatDoor.playCalls
