/-
  The card of 'Rows.StepKnownCardSaid': the row's statement (proved in SyfN), what it lists of package variables tied to the program's text (the given tie). No further condition.
-/
import Derived.Test.YtbcpkhbojpglaaaGreatDoorCards
import Derived.Test.YtbcpkhbojpglaaaGreatDoorTie
import Derived.Test.YtbcpkhbojpglaaaGreatDoorSyfN
namespace Go.Proofs.YtbcpkhbojpglaaaGreatDoor.stepKnown
open Go

theorem card : Rows.StepKnownCardSaid :=
  Claim7.holds_tied_plain_at .later [] [.data, .data, .data, .data, .sentinel, .sentinel, .listed, .data, .pinned] true (true, "b2a162a5402322afdc22c599b8bc8627eaf2ac2156fd6ff7cf3460b710c975be") true
    proved (fun _ h => by cases h) (by kernel_rfl) (fun _ h => by cases h) stepKnown_row_tie rfl ⟨rfl, rfl⟩ (by kernel_rfl) rfl
    (fun f fn hf hfn => by
      obtain rfl : f = 3 := Option.some.inj ((show Tryz.prog.funcNamed "lazarus/lazaruslaw22.StepKnown" = some 3 by kernel_rfl).symm.trans hf) |>.symm
      obtain rfl : fn = Tryz.f3 := (Option.some.inj (Tryz.func3.symm.trans hfn)).symm
      exact ⟨by kernel_rfl, fun j t ht => by
        rw [Tryz.params3] at ht
        have ht' : t = 3 := by
          rcases j with _ | j
          all_goals simp at ht
          all_goals simp [← ht]
        rcases ht' with rfl
        · exact (show Tryz.prog.wantsStandIn 3 = false by kernel_rfl)⟩)
    (by kernel_rfl)
#print axioms card
end Go.Proofs.YtbcpkhbojpglaaaGreatDoor.stepKnown
