/-
  The card of 'Rows.WordSetsCardSaid': the row's statement (proved in WsfN), what it lists of package variables tied to the program's text (the given tie). No further condition.
-/
import Derived.Test.YtpkjpkfamdmgiaaGreatDoorCards
import Derived.Test.YtpkjpkfamdmgiaaGreatDoorTie
import Derived.Test.YtpkjpkfamdmgiaaGreatDoorWsfN
namespace Go.Proofs.YtpkjpkfamdmgiaaGreatDoor.wordSets
open Go

theorem card : Rows.WordSetsCardSaid :=
  Claim7.holds_tied_plain_at .later [] [.data, .data, .data, .data, .sentinel, .sentinel, .pinned] true (true, "3fe2daaeb9ac131f2992d4d99f99d4c5028a02a9fae2b6487a2d44ebfe2ccf3c") true
    proved (fun _ h => by cases h) (by kernel_rfl) (fun _ h => by cases h) wordSets_row_tie rfl ⟨rfl, rfl⟩ (by kernel_rfl) rfl
    (fun f fn hf hfn => by
      obtain rfl : f = 4 := Option.some.inj ((show Tryz.prog.funcNamed "lazarus/lazaruslaw16.WordSets" = some 4 by kernel_rfl).symm.trans hf) |>.symm
      obtain rfl : fn = Tryz.f4 := (Option.some.inj (Tryz.func4.symm.trans hfn)).symm
      exact ⟨by kernel_rfl, fun j t ht => by
        rw [Tryz.params4] at ht
        have ht' : t = 9 := by
          rcases j with _ | j
          all_goals simp at ht
          all_goals simp [← ht]
        rcases ht' with rfl
        · exact (show Tryz.prog.wantsStandIn 9 = false by kernel_rfl)⟩)
    (by kernel_rfl)
#print axioms card
end Go.Proofs.YtpkjpkfamdmgiaaGreatDoor.wordSets
