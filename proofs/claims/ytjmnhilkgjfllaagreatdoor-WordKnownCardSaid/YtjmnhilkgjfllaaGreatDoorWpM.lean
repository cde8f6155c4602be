/-
  The card of 'Rows.WordKnownCardSaid': the row's statement (proved in WpL), what it lists of package variables tied to the program's text (the given tie). No further condition.
-/
import Derived.Test.YtjmnhilkgjfllaaGreatDoorCards
import Derived.Test.YtjmnhilkgjfllaaGreatDoorTie
import Derived.Test.YtjmnhilkgjfllaaGreatDoorWpL
namespace Go.Proofs.YtjmnhilkgjfllaaGreatDoor.wordKnown
open Go

theorem card : Rows.WordKnownCardSaid :=
  Claim7.holds_tied_plain_at .later [] [.data, .data, .data, .data, .sentinel, .sentinel, .pinned] true (true, "d59f272a283f3025a35949c78d33c32a495d5ab494e287a903efdeafdc4b7671") true
    proved (fun _ h => by cases h) (by kernel_rfl) (fun _ h => by cases h) wordKnown_row_tie rfl ⟨rfl, rfl⟩ (by kernel_rfl) rfl
    (fun f fn hf hfn => by
      obtain rfl : f = 3 := Option.some.inj ((show Tryz.prog.funcNamed "lazarus/lazaruslaw16.WordKnown" = some 3 by kernel_rfl).symm.trans hf) |>.symm
      obtain rfl : fn = Tryz.f3 := (Option.some.inj (Tryz.func3.symm.trans hfn)).symm
      exact ⟨by kernel_rfl, fun j t ht => by
        rw [Tryz.params3] at ht
        have ht' : t = 3 := by
          rcases j with _ | j
          all_goals simp at ht
          all_goals simp [← ht]
        rcases ht' with rfl
        · exact (show Tryz.prog.wantsStandIn 3 = false by kernel_rfl)⟩)
    (by kernel_rfl)
#print axioms card
end Go.Proofs.YtjmnhilkgjfllaaGreatDoor.wordKnown
