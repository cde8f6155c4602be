/-
  The statement 'Rows.BuiltReadSaid': for every input 'lazarus' BuiltRead returns true, and what it was handed reads as before. No further condition.
-/
import Derived.Test.YtbfdpfcofdgckaaGreatDoorRows
import Derived.Test.YtbfdpfcofdgckaaGreatDoorBrfL
import Derived.Test.YtbfdpfcofdgckaaGreatDoorBrfQ
import Derived.JoinedOf
namespace Go.Proofs.YtbfdpfcofdgckaaGreatDoor.builtRead
open Go.ChangeShapes Go.WideShapes Go.ChangeAt Go.RowKit
set_option linter.unusedVariables false
set_option maxHeartbeats 0
theorem over : Rows.builtReadRow.holds Tryz.pinned (OpenSpec.ofChange Rows.builtReadSpec) :=
  OpenClaim.holds_of_wide 4 Tryz.f4 rfl rfl rfl rfl rfl rfl rfl ⟨rfl, rfl, rfl, rfl, rfl⟩ rfl rfl rfl rfl rfl (by as_aux_lemma => kernel_rfl) Tryz.func4 Br.facts4
    (of_decide_eq_true (by as_aux_lemma => kernel_rfl)) (by unfold Func.isWrapper; first | (rw [if_pos (by decide +kernel)]; kernel_rfl) | (rw [if_neg (by decide +kernel)]; exact ⟨rfl, rfl⟩))
    (fun os started H enc _ => lifted os started H enc)

theorem proved : Rows.BuiltReadSaid :=
  over
#print axioms proved
end Go.Proofs.YtbfdpfcofdgckaaGreatDoor.builtRead
