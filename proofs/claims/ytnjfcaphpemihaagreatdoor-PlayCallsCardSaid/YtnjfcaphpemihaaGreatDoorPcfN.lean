/-
  The statement 'Rows.PlayCallsSaid': for every input 'lazarus' PlayCalls returns true, and what it was handed reads as before. No further condition.
-/
import Derived.Test.YtnjfcaphpemihaaGreatDoorRows
import Derived.Test.YtnjfcaphpemihaaGreatDoorPcfL
import Derived.Test.YtnjfcaphpemihaaGreatDoorPcfQ
import Derived.JoinedOf
namespace Go.Proofs.YtnjfcaphpemihaaGreatDoor.playCalls
open Go.ChangeShapes Go.WideShapes Go.ChangeAt Go.RowKit
set_option linter.unusedVariables false
set_option maxHeartbeats 0
theorem over : Rows.playCallsRow.holds Tryz.pinned (OpenSpec.ofChange Rows.playCallsSpec) :=
  OpenClaim.holds_of_wide 3 Tryz.f3 rfl rfl rfl rfl rfl rfl rfl ⟨rfl, rfl, rfl, rfl, rfl⟩ rfl rfl rfl rfl rfl (by as_aux_lemma => kernel_rfl) Tryz.func3 Pc.facts3
    (of_decide_eq_true (by as_aux_lemma => kernel_rfl)) (by unfold Func.isWrapper; first | (rw [if_pos (by decide +kernel)]; kernel_rfl) | (rw [if_neg (by decide +kernel)]; exact ⟨rfl, rfl⟩))
    (fun os started H enc _ => lifted os started H enc)

theorem proved : Rows.PlayCallsSaid :=
  over
#print axioms proved
end Go.Proofs.YtnjfcaphpemihaaGreatDoor.playCalls
