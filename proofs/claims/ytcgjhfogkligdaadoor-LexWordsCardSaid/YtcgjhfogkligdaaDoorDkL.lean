/-
  The card of 'Rows.LexWordsCardSaid': the row's statement (proved in DkK), what it lists of package variables tied to the program's text (the given tie). No further condition.
-/
import Derived.Test.YtcgjhfogkligdaaDoorCards
import Derived.Test.YtcgjhfogkligdaaDoorTie
import Derived.Test.YtcgjhfogkligdaaDoorDkK
namespace Go.Proofs.YtcgjhfogkligdaaDoor.lexWords
open Go

theorem card : Rows.LexWordsCardSaid :=
  Claim7.holds_tied_plain_at .later [] [.data, .pinned] true (true, "17e4d228717495981d62ed37a594518c405b8d22f0bf35e5d93acc14bb0d36b4") true
    proved (fun _ h => by cases h) (by kernel_rfl) (fun _ h => by cases h) lexWords_row_tie rfl ⟨rfl, rfl⟩ (by kernel_rfl) rfl
    (fun f fn hf hfn => by
      obtain rfl : f = 3 := Option.some.inj ((show Tryd.prog.funcNamed "lazarus/lazaruslaw8.LexWords" = some 3 by kernel_rfl).symm.trans hf) |>.symm
      obtain rfl : fn = Tryd.f3 := (Option.some.inj (Tryd.func3.symm.trans hfn)).symm
      exact ⟨by kernel_rfl, fun j t ht => by
        rw [Tryd.params3] at ht
        have ht' : t = 3 := by
          rcases j with _ | j
          all_goals simp at ht
          all_goals simp [← ht]
        rcases ht' with rfl
        · exact (show Tryd.prog.wantsStandIn 3 = false by kernel_rfl)⟩)
    (by kernel_rfl)
#print axioms card
end Go.Proofs.YtcgjhfogkligdaaDoor.lexWords
