/-
  The program's ties, fact by fact (the seat's own text for them wants more memory than a process may have). No further condition.
-/
import Derived.Test.YtnjfcaphpemihaaGreatDoorPcU
namespace Go.Proofs.YtnjfcaphpemihaaGreatDoor.playCalls
open Go
theorem t_hn : varsNamedLaterB Tryz.prog (varsId Tryz.prog) tl = true := by rw [vid]; kernel_rfl
theorem t_hd : ∀ os tape, varsDone Tryz.prog 400 (varsId Tryz.prog) os tape = true := by intro os tape; rw [vid]; kernel_rfl
end Go.Proofs.YtnjfcaphpemihaaGreatDoor.playCalls
