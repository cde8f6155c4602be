/-
  The card of 'Rows.WordQuotedCardSaid': the row's statement (proved in WqfN), what it lists of package variables tied to the program's text (the given tie). No further condition.
-/
import Derived.Test.YtpkjpkfamdmgiaaGreatDoorCards
import Derived.Test.YtpkjpkfamdmgiaaGreatDoorTie
import Derived.Test.YtpkjpkfamdmgiaaGreatDoorWqfN
namespace Go.Proofs.YtpkjpkfamdmgiaaGreatDoor.wordQuoted
open Go

theorem card : Rows.WordQuotedCardSaid :=
  Claim7.holds_tied_plain_at .later [] [.data, .data, .data, .data, .sentinel, .sentinel, .pinned] true (true, "3fe2daaeb9ac131f2992d4d99f99d4c5028a02a9fae2b6487a2d44ebfe2ccf3c") true
    proved (fun _ h => by cases h) (by kernel_rfl) (fun _ h => by cases h) wordQuoted_row_tie rfl ⟨rfl, rfl⟩ (by kernel_rfl) rfl
    (fun f fn hf hfn => by
      obtain rfl : f = 3 := Option.some.inj ((show Tryz.prog.funcNamed "lazarus/lazaruslaw16.WordQuoted" = some 3 by kernel_rfl).symm.trans hf) |>.symm
      obtain rfl : fn = Tryz.f3 := (Option.some.inj (Tryz.func3.symm.trans hfn)).symm
      exact ⟨by kernel_rfl, fun j t ht => by
        rw [Tryz.params3] at ht
        have ht' : t = 9 := by
          rcases j with _ | j
          all_goals simp at ht
          all_goals simp [← ht]
        rcases ht' with rfl
        · exact (show Tryz.prog.wantsStandIn 9 = false by kernel_rfl)⟩)
    (by kernel_rfl)
#print axioms card
end Go.Proofs.YtpkjpkfamdmgiaaGreatDoor.wordQuoted
