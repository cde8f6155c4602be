/-
  The card of 'Rows.BuiltNotCardSaid': the row's statement (proved in BnN), what it lists of package variables tied to the program's text (the given tie). No further condition.
-/
import Derived.Test.YtkmffdoaahiopaaGreatDoorCards
import Derived.Test.YtkmffdoaahiopaaGreatDoorTie
import Derived.Test.YtkmffdoaahiopaaGreatDoorBnN
namespace Go.Proofs.YtkmffdoaahiopaaGreatDoor.builtNot
open Go

theorem card : Rows.BuiltNotCardSaid :=
  Claim7.holds_tied_plain_at .later [] [.data, .data, .data, .sentinel, .sentinel, .listed, .data] true (true, "2cdc66594407c49fd5441ef1933ce92e6ca87c08eb77492aff003f9f0c42270e") true
    proved (fun _ h => by cases h) (by kernel_rfl) (fun _ h => by cases h) builtNot_row_tie rfl ⟨rfl, rfl⟩ (by kernel_rfl) rfl
    (fun f fn hf hfn => by
      obtain rfl : f = 3 := Option.some.inj ((show Tryz.prog.funcNamed "lazarus/lazaruslaw21.BuiltNot" = some 3 by kernel_rfl).symm.trans hf) |>.symm
      obtain rfl : fn = Tryz.f3 := (Option.some.inj (Tryz.func3.symm.trans hfn)).symm
      exact ⟨by kernel_rfl, fun j t ht => by
        rw [Tryz.params3] at ht
        have ht' : t = 22 := by
          rcases j with _ | j
          all_goals simp at ht
          all_goals simp [← ht]
        rcases ht' with rfl
        · exact (show Tryz.prog.wantsStandIn 22 = false by kernel_rfl)⟩)
    (by kernel_rfl)
#print axioms card
end Go.Proofs.YtkmffdoaahiopaaGreatDoor.builtNot
