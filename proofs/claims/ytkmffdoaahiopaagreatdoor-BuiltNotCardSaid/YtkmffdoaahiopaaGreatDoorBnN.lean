/-
  The statement 'Rows.BuiltNotSaid': for every input 'lazarus' BuiltNot returns true, and what it was handed reads as before. No further condition.
-/
import Derived.Test.YtkmffdoaahiopaaGreatDoorRows
import Derived.Test.YtkmffdoaahiopaaGreatDoorBnL
import Derived.Test.YtkmffdoaahiopaaGreatDoorBfQ
import Derived.JoinedOf
namespace Go.Proofs.YtkmffdoaahiopaaGreatDoor.builtNot
open Go.ChangeShapes Go.WideShapes Go.ChangeAt Go.RowKit
set_option linter.unusedVariables false
set_option maxHeartbeats 0
theorem over : Rows.builtNotRow.holds Tryz.pinned (OpenSpec.ofChange Rows.builtNotSpec) :=
  OpenClaim.holds_of_wide 3 Tryz.f3 rfl rfl rfl rfl rfl rfl rfl ⟨rfl, rfl, rfl, rfl, rfl⟩ rfl rfl rfl rfl rfl (by as_aux_lemma => kernel_rfl) Tryz.func3 Bn.facts3
    (of_decide_eq_true (by as_aux_lemma => kernel_rfl)) (by unfold Func.isWrapper; first | (rw [if_pos (by decide +kernel)]; kernel_rfl) | (rw [if_neg (by decide +kernel)]; exact ⟨rfl, rfl⟩))
    (fun os started H enc _ => lifted os started H enc)

theorem proved : Rows.BuiltNotSaid :=
  over
#print axioms proved
end Go.Proofs.YtkmffdoaahiopaaGreatDoor.builtNot
