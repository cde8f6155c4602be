/-
  The card of 'Rows.LexDeepCardSaid': the row's statement (proved in DkM), what it lists of package variables tied to the program's text (the given tie). No further condition.
-/
import Derived.Test.YtcgjhfogkligdaaDoorCards
import Derived.Test.YtcgjhfogkligdaaDoorTie
import Derived.Test.YtcgjhfogkligdaaDoorDkM
namespace Go.Proofs.YtcgjhfogkligdaaDoor.lexDeep
open Go

theorem card : Rows.LexDeepCardSaid :=
  Claim7.holds_tied_plain_at .later [] [.data, .pinned] true (true, "17e4d228717495981d62ed37a594518c405b8d22f0bf35e5d93acc14bb0d36b4") true
    proved (fun _ h => by cases h) (by kernel_rfl) (fun _ h => by cases h) lexDeep_row_tie rfl ⟨rfl, rfl⟩ (by kernel_rfl) rfl
    (fun f fn hf hfn => by
      obtain rfl : f = 5 := Option.some.inj ((show Tryd.prog.funcNamed "lazarus/lazaruslaw8.LexDeep" = some 5 by kernel_rfl).symm.trans hf) |>.symm
      obtain rfl : fn = Tryd.f5 := (Option.some.inj (Tryd.func5.symm.trans hfn)).symm
      exact ⟨by kernel_rfl, fun j t ht => by
        rw [Tryd.params5] at ht
        have ht' : t = 3 ∨ t = 4 := by
          rcases j with _ | _ | j
          all_goals simp at ht
          all_goals simp [← ht]
        rcases ht' with rfl | rfl
        · exact (show Tryd.prog.wantsStandIn 3 = false by kernel_rfl)
        · exact (show Tryd.prog.wantsStandIn 4 = false by kernel_rfl)⟩)
    (by kernel_rfl)
#print axioms card
end Go.Proofs.YtcgjhfogkligdaaDoor.lexDeep
