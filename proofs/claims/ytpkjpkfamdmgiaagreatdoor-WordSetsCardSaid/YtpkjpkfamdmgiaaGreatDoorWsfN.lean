/-
  The statement 'Rows.WordSetsSaid': for every input 'lazarus' WordSets returns true, and what it was handed reads as before. No further condition.
-/
import Derived.Test.YtpkjpkfamdmgiaaGreatDoorRows
import Derived.Test.YtpkjpkfamdmgiaaGreatDoorWsfL
import Derived.Test.YtpkjpkfamdmgiaaGreatDoorWsfQ
import Derived.JoinedOf
namespace Go.Proofs.YtpkjpkfamdmgiaaGreatDoor.wordSets
open Go.ChangeShapes Go.WideShapes Go.ChangeAt Go.RowKit
set_option linter.unusedVariables false
set_option maxHeartbeats 0
theorem over : Rows.wordSetsRow.holds Tryz.pinned (OpenSpec.ofChange Rows.wordSetsSpec) :=
  OpenClaim.holds_of_wide 4 Tryz.f4 rfl rfl rfl rfl rfl rfl rfl ⟨rfl, rfl, rfl, rfl, rfl⟩ rfl rfl rfl rfl rfl (by as_aux_lemma => kernel_rfl) Tryz.func4 Ws.facts4
    (of_decide_eq_true (by as_aux_lemma => kernel_rfl)) (by unfold Func.isWrapper; first | (rw [if_pos (by decide +kernel)]; kernel_rfl) | (rw [if_neg (by decide +kernel)]; exact ⟨rfl, rfl⟩))
    (fun os started H enc _ => lifted os started H enc)

theorem proved : Rows.WordSetsSaid :=
  over
#print axioms proved
end Go.Proofs.YtpkjpkfamdmgiaaGreatDoor.wordSets
