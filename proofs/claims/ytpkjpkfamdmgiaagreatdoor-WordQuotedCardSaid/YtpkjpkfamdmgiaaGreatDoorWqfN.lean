/-
  The statement 'Rows.WordQuotedSaid': for every input 'lazarus' WordQuoted returns true, and what it was handed reads as before. No further condition.
-/
import Derived.Test.YtpkjpkfamdmgiaaGreatDoorRows
import Derived.Test.YtpkjpkfamdmgiaaGreatDoorWqfL
import Derived.Test.YtpkjpkfamdmgiaaGreatDoorWqfQ
import Derived.JoinedOf
namespace Go.Proofs.YtpkjpkfamdmgiaaGreatDoor.wordQuoted
open Go.ChangeShapes Go.WideShapes Go.ChangeAt Go.RowKit
set_option linter.unusedVariables false
set_option maxHeartbeats 0
theorem over : Rows.wordQuotedRow.holds Tryz.pinned (OpenSpec.ofChange Rows.wordQuotedSpec) :=
  OpenClaim.holds_of_wide 3 Tryz.f3 rfl rfl rfl rfl rfl rfl rfl ⟨rfl, rfl, rfl, rfl, rfl⟩ rfl rfl rfl rfl rfl (by as_aux_lemma => kernel_rfl) Tryz.func3 Ws.facts3
    (of_decide_eq_true (by as_aux_lemma => kernel_rfl)) (by unfold Func.isWrapper; first | (rw [if_pos (by decide +kernel)]; kernel_rfl) | (rw [if_neg (by decide +kernel)]; exact ⟨rfl, rfl⟩))
    (fun os started H enc _ => lifted os started H enc)

theorem proved : Rows.WordQuotedSaid :=
  over
#print axioms proved
end Go.Proofs.YtpkjpkfamdmgiaaGreatDoor.wordQuoted
