/-
  The statement 'Rows.ArithSumsSaid': for every input 'lazarus' ArithSums returns true, and what it was handed reads as before. No further condition.
-/
import Derived.Test.YtaapmoclinjefaaDoorRows
import Derived.Test.YtaapmoclinjefaaDoorArfL
import Derived.Test.YtaapmoclinjefaaDoorArfQ
import Derived.JoinedOf
namespace Go.Proofs.YtaapmoclinjefaaDoor.arithSums
open Go.ChangeShapes Go.WideShapes Go.ChangeAt Go.RowKit
set_option linter.unusedVariables false
set_option maxHeartbeats 0
theorem over : Rows.arithSumsRow.holds Tryd.pinned (OpenSpec.ofChange Rows.arithSumsSpec) :=
  OpenClaim.holds_of_wide 4 Tryd.f4 rfl rfl rfl rfl rfl rfl rfl ⟨rfl, rfl, rfl, rfl, rfl⟩ rfl rfl rfl rfl rfl (by as_aux_lemma => kernel_rfl) Tryd.func4 Ar.facts4
    (of_decide_eq_true (by as_aux_lemma => kernel_rfl)) (by unfold Func.isWrapper; first | (rw [if_pos (by decide +kernel)]; kernel_rfl) | (rw [if_neg (by decide +kernel)]; exact ⟨rfl, rfl⟩))
    (fun os started H enc _ => lifted os started H enc)

theorem proved : Rows.ArithSumsSaid :=
  over
#print axioms proved
end Go.Proofs.YtaapmoclinjefaaDoor.arithSums
