/-
  The program's ties, fact by fact (the seat's own text for them wants more memory than a process may have). No further condition.
-/
import Derived.Test.YtnjfcaphpemihaaGreatDoorPcU
namespace Go.Proofs.YtnjfcaphpemihaaGreatDoor.playCalls
open Go
theorem t_hroot : Tryz.prog.worded rootWordLater = true := by kernel_rfl
theorem t_hk : tl.map (fun x => Tryz.prog.kindOfLater x.1) = tk.map some := by kernel_rfl
theorem t_hg : (Tryz.prog.funcNamed "gosem.cut.vars").isSome = true := by kernel_rfl
end Go.Proofs.YtnjfcaphpemihaaGreatDoor.playCalls
