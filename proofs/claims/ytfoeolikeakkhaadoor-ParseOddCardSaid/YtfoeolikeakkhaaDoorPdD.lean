/-
  The card of 'Rows.ParseOddCardSaid': the row's statement (proved in PdC), what it lists of package variables tied to the program's text (the given tie). No further condition.
-/
import Derived.Test.YtfoeolikeakkhaaDoorCards
import Derived.Test.YtfoeolikeakkhaaDoorTie
import Derived.Test.YtfoeolikeakkhaaDoorPdC
namespace Go.Proofs.YtfoeolikeakkhaaDoor.parseOdd
open Go

theorem card : Rows.ParseOddCardSaid :=
  Claim7.holds_tied_plain_at .later [] [.data, .listed, .data, .pinned] true (true, "76c47149e877687d9d90d603b06e9b4b7067aa7e2fc4b7e686d17605e6612345") false
    proved (fun _ h => by cases h) (by kernel_rfl) (fun _ h => by cases h) parseOdd_row_tie rfl ⟨rfl, rfl⟩ (by kernel_rfl) rfl
    (fun f fn hf hfn => by
      obtain rfl : f = 3 := Option.some.inj ((show Tryd.prog.funcNamed "lazarus/lazaruslaw10.ParseOdd" = some 3 by kernel_rfl).symm.trans hf) |>.symm
      obtain rfl : fn = Tryd.f3 := (Option.some.inj (Tryd.func3.symm.trans hfn)).symm
      exact ⟨by kernel_rfl, fun j t ht => by
        rw [Tryd.params3] at ht
        have ht' : t = 3 := by
          rcases j with _ | j
          all_goals simp at ht
          all_goals simp [← ht]
        rcases ht' with rfl
        · exact (show Tryd.prog.wantsStandIn 3 = false by kernel_rfl)⟩)
    (by kernel_rfl)
#print axioms card
end Go.Proofs.YtfoeolikeakkhaaDoor.parseOdd
