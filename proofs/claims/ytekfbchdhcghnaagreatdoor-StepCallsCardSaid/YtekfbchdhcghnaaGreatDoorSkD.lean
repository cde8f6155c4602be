/-
  The card of 'Rows.StepCallsCardSaid': the row's statement (proved in SkC), what it lists of package variables tied to the program's text (the given tie). No further condition.
-/
import Derived.Test.YtekfbchdhcghnaaGreatDoorCards
import Derived.Test.YtekfbchdhcghnaaGreatDoorTie
import Derived.Test.YtekfbchdhcghnaaGreatDoorSkC
namespace Go.Proofs.YtekfbchdhcghnaaGreatDoor.stepCalls
open Go

theorem card : Rows.StepCallsCardSaid :=
  Claim7.holds_tied_plain_at .later [] [.data, .data, .data, .data, .sentinel, .sentinel, .listed, .data, .pinned] true (true, "0531e10193b4e3ef0a75476a9be0123f80041e4d4470c47bf664c59d03789497") true
    proved (fun _ h => by cases h) (by kernel_rfl) (fun _ h => by cases h) stepCalls_row_tie rfl ⟨rfl, rfl⟩ (by kernel_rfl) rfl
    (fun f fn hf hfn => by
      obtain rfl : f = 4 := Option.some.inj ((show Tryz.prog.funcNamed "lazarus/lazaruslaw22.StepCalls" = some 4 by kernel_rfl).symm.trans hf) |>.symm
      obtain rfl : fn = Tryz.f4 := (Option.some.inj (Tryz.func4.symm.trans hfn)).symm
      exact ⟨by kernel_rfl, fun j t ht => by
        rw [Tryz.params4] at ht
        have ht' : t = 3 := by
          rcases j with _ | j
          all_goals simp at ht
          all_goals simp [← ht]
        rcases ht' with rfl
        · exact (show Tryz.prog.wantsStandIn 3 = false by kernel_rfl)⟩)
    (by kernel_rfl)
#print axioms card
end Go.Proofs.YtekfbchdhcghnaaGreatDoor.stepCalls
