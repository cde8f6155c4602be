/-
  The card of 'Rows.ArithNumsCardSaid': the row's statement (proved in NuI), what it lists of package variables tied to the program's text (the given tie). No further condition.
-/
import Derived.Test.YtoibclnkbfgmhaaDoorCards
import Derived.Test.YtoibclnkbfgmhaaDoorTie
import Derived.Test.YtoibclnkbfgmhaaDoorNuI
namespace Go.Proofs.YtoibclnkbfgmhaaDoor.arithNums
open Go

theorem card : Rows.ArithNumsCardSaid :=
  Claim7.holds_tied_plain_at .later [] [.data, .data, .data, .data, .sentinel, .sentinel, .pinned] true (true, "5661ebabb3c388e41f80b748f2b0e0e59357e2a615c532ce06907def1b6a9762") true
    proved (fun _ h => by cases h) (by kernel_rfl) (fun _ h => by cases h) arithNums_row_tie rfl ⟨rfl, rfl⟩ (by kernel_rfl) rfl
    (fun f fn hf hfn => by
      obtain rfl : f = 3 := Option.some.inj ((show Tryd.prog.funcNamed "lazarus/lazaruslaw12.ArithNums" = some 3 by kernel_rfl).symm.trans hf) |>.symm
      obtain rfl : fn = Tryd.f3 := (Option.some.inj (Tryd.func3.symm.trans hfn)).symm
      exact ⟨by kernel_rfl, fun j t ht => by
        rw [Tryd.params3] at ht
        have ht' : t = 2 ∨ t = 9 := by
          rcases j with _ | _ | j
          all_goals simp at ht
          all_goals simp [← ht]
        rcases ht' with rfl | rfl
        · exact (show Tryd.prog.wantsStandIn 2 = false by kernel_rfl)
        · exact (show Tryd.prog.wantsStandIn 9 = false by kernel_rfl)⟩)
    (by kernel_rfl)
#print axioms card
end Go.Proofs.YtoibclnkbfgmhaaDoor.arithNums
