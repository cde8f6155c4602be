/-
  The card of 'Rows.BuiltEndsCardSaid': the row's statement (proved in BeE), what it lists of package variables tied to the program's text (the given tie). No further condition.
-/
import Derived.Test.YtabbbammkoldlaaGreatDoorCards
import Derived.Test.YtabbbammkoldlaaGreatDoorTie
import Derived.Test.YtabbbammkoldlaaGreatDoorBeE
namespace Go.Proofs.YtabbbammkoldlaaGreatDoor.builtEnds
open Go

theorem card : Rows.BuiltEndsCardSaid :=
  Claim7.holds_tied_plain_at .later [] [.data, .data, .data, .sentinel, .sentinel, .listed, .data] true (true, "c2bcc080a1f8dbf3253e90d6e0adb75a8983b60e71a343a57d5dc67a4cbca9db") true
    proved (fun _ h => by cases h) (by kernel_rfl) (fun _ h => by cases h) builtEnds_row_tie rfl ⟨rfl, rfl⟩ (by kernel_rfl) rfl
    (fun f fn hf hfn => by
      obtain rfl : f = 3 := Option.some.inj ((show Tryz.prog.funcNamed "lazarus/lazaruslaw21.BuiltEnds" = some 3 by kernel_rfl).symm.trans hf) |>.symm
      obtain rfl : fn = Tryz.f3 := (Option.some.inj (Tryz.func3.symm.trans hfn)).symm
      exact ⟨by kernel_rfl, fun j t ht => by
        rw [Tryz.params3] at ht
        have ht' : t = 2 ∨ t = 3 := by
          rcases j with _ | _ | j
          all_goals simp at ht
          all_goals simp [← ht]
        rcases ht' with rfl | rfl
        · exact (show Tryz.prog.wantsStandIn 2 = false by kernel_rfl)
        · exact (show Tryz.prog.wantsStandIn 3 = false by kernel_rfl)⟩)
    (by kernel_rfl)
#print axioms card
end Go.Proofs.YtabbbammkoldlaaGreatDoor.builtEnds
