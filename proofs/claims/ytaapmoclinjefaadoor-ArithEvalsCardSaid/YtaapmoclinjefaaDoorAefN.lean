/-
  The statement 'Rows.ArithEvalsSaid': for every input 'lazarus' ArithEvals returns true, and what it was handed reads as before. No further condition.
-/
import Derived.Test.YtaapmoclinjefaaDoorRows
import Derived.Test.YtaapmoclinjefaaDoorAefL
import Derived.Test.YtaapmoclinjefaaDoorAefQ
import Derived.JoinedOf
namespace Go.Proofs.YtaapmoclinjefaaDoor.arithEvals
open Go.ChangeShapes Go.WideShapes Go.ChangeAt Go.RowKit
set_option linter.unusedVariables false
set_option maxHeartbeats 0
theorem over : Rows.arithEvalsRow.holds Tryd.pinned (OpenSpec.ofChange Rows.arithEvalsSpec) :=
  OpenClaim.holds_of_wide 3 Tryd.f3 rfl rfl rfl rfl rfl rfl rfl ⟨rfl, rfl, rfl, rfl, rfl⟩ rfl rfl rfl rfl rfl (by as_aux_lemma => kernel_rfl) Tryd.func3 Ar.facts3
    (of_decide_eq_true (by as_aux_lemma => kernel_rfl)) (by unfold Func.isWrapper; first | (rw [if_pos (by decide +kernel)]; kernel_rfl) | (rw [if_neg (by decide +kernel)]; exact ⟨rfl, rfl⟩))
    (fun os started H enc _ => lifted os started H enc)

theorem proved : Rows.ArithEvalsSaid :=
  over
#print axioms proved
end Go.Proofs.YtaapmoclinjefaaDoor.arithEvals
