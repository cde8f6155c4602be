/-
  The statement 'Rows.ArithBlanksSaid': for every input 'lazarus' ArithBlanks returns true, and what it was handed reads as before. No further condition.
-/
import Derived.Test.YtaapmoclinjefaaDoorRows
import Derived.Test.YtaapmoclinjefaaDoorAbfL
import Derived.Test.YtaapmoclinjefaaDoorAbfQ
import Derived.JoinedOf
namespace Go.Proofs.YtaapmoclinjefaaDoor.arithBlanks
open Go.ChangeShapes Go.WideShapes Go.ChangeAt Go.RowKit
set_option linter.unusedVariables false
set_option maxHeartbeats 0
theorem over : Rows.arithBlanksRow.holds Tryd.pinned (OpenSpec.ofChange Rows.arithBlanksSpec) :=
  OpenClaim.holds_of_wide 5 Tryd.f5 rfl rfl rfl rfl rfl rfl rfl ⟨rfl, rfl, rfl, rfl, rfl⟩ rfl rfl rfl rfl rfl (by as_aux_lemma => kernel_rfl) Tryd.func5 Ar.facts5
    (of_decide_eq_true (by as_aux_lemma => kernel_rfl)) (by unfold Func.isWrapper; first | (rw [if_pos (by decide +kernel)]; kernel_rfl) | (rw [if_neg (by decide +kernel)]; exact ⟨rfl, rfl⟩))
    (fun os started H enc _ => lifted os started H enc)

theorem proved : Rows.ArithBlanksSaid :=
  over
#print axioms proved
end Go.Proofs.YtaapmoclinjefaaDoor.arithBlanks
