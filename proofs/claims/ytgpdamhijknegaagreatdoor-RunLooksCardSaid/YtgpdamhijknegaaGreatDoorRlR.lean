/-
  The card of 'Rows.RunLooksCardSaid': the row's statement (proved in RlN), what it lists of package variables tied to the program's text (the given tie). No further condition.
-/
import Derived.Test.YtgpdamhijknegaaGreatDoorCards
import Derived.Test.YtgpdamhijknegaaGreatDoorTie
import Derived.Test.YtgpdamhijknegaaGreatDoorRlN
namespace Go.Proofs.YtgpdamhijknegaaGreatDoor.runLooks
open Go

theorem card : Rows.RunLooksCardSaid :=
  Claim7.holds_tied_plain_at .later [] [.data, .data, .data, .data, .sentinel, .sentinel, .listed, .data, .pinned] true (true, "434054d07a4106375e786b92947d7c536ff6e02b7e29ae6353929be70452a736") true
    proved (fun _ h => by cases h) (by kernel_rfl) (fun _ h => by cases h) runLooks_row_tie rfl ⟨rfl, rfl⟩ (by kernel_rfl) rfl
    (fun f fn hf hfn => by
      obtain rfl : f = 3 := Option.some.inj ((show Tryz.prog.funcNamed "lazarus/lazaruslaw24.RunLooks" = some 3 by kernel_rfl).symm.trans hf) |>.symm
      obtain rfl : fn = Tryz.f3 := (Option.some.inj (Tryz.func3.symm.trans hfn)).symm
      exact ⟨by kernel_rfl, fun j t ht => by
        rw [Tryz.params3] at ht
        have ht' : t = 3 ∨ t = 22 ∨ t = 37 ∨ t = 38 := by
          rcases j with _ | _ | _ | _ | j
          all_goals simp at ht
          all_goals simp [← ht]
        rcases ht' with rfl | rfl | rfl | rfl
        · exact (show Tryz.prog.wantsStandIn 3 = false by kernel_rfl)
        · exact (show Tryz.prog.wantsStandIn 22 = false by kernel_rfl)
        · exact (show Tryz.prog.wantsStandIn 37 = false by kernel_rfl)
        · exact (show Tryz.prog.wantsStandIn 38 = false by kernel_rfl)⟩)
    (by kernel_rfl)
#print axioms card
end Go.Proofs.YtgpdamhijknegaaGreatDoor.runLooks
