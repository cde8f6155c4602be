/-
  The card of 'Rows.LexSignsCardSaid': the row's statement (proved in DkI), what it lists of package variables tied to the program's text (the given tie). No further condition.
-/
import Derived.Test.YtcgjhfogkligdaaDoorCards
import Derived.Test.YtcgjhfogkligdaaDoorTie
import Derived.Test.YtcgjhfogkligdaaDoorDkI
namespace Go.Proofs.YtcgjhfogkligdaaDoor.lexSigns
open Go

theorem card : Rows.LexSignsCardSaid :=
  Claim7.holds_tied_plain_at .later [] [.data, .pinned] true (true, "17e4d228717495981d62ed37a594518c405b8d22f0bf35e5d93acc14bb0d36b4") true
    proved (fun _ h => by cases h) (by kernel_rfl) (fun _ h => by cases h) lexSigns_row_tie rfl ⟨rfl, rfl⟩ (by kernel_rfl) rfl
    (fun f fn hf hfn => by
      obtain rfl : f = 4 := Option.some.inj ((show Tryd.prog.funcNamed "lazarus/lazaruslaw8.LexSigns" = some 4 by kernel_rfl).symm.trans hf) |>.symm
      obtain rfl : fn = Tryd.f4 := (Option.some.inj (Tryd.func4.symm.trans hfn)).symm
      exact ⟨by kernel_rfl, fun j t ht => by
        rw [Tryd.params4] at ht
        have ht' : t = 3 := by
          rcases j with _ | _ | j
          all_goals simp at ht
          all_goals simp [← ht]
        rcases ht' with rfl
        · exact (show Tryd.prog.wantsStandIn 3 = false by kernel_rfl)⟩)
    (by kernel_rfl)
#print axioms card
end Go.Proofs.YtcgjhfogkligdaaDoor.lexSigns
