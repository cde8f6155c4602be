/-
  The card of 'Rows.ParseOrderCardSaid': the row's statement (proved in PoC), what it lists of package variables tied to the program's text (the given tie). No further condition.
-/
import Derived.Test.YtfoeolikeakkhaaGreatDoorCards
import Derived.Test.YtfoeolikeakkhaaGreatDoorTie
import Derived.Test.YtfoeolikeakkhaaGreatDoorPoC
namespace Go.Proofs.YtfoeolikeakkhaaGreatDoor.parseOrder
open Go

theorem card : Rows.ParseOrderCardSaid :=
  Claim7.holds_tied_plain_at .later [] [.data, .listed, .data, .pinned] true (true, "10a4865cb411af81a3e680136a674c445f30cb30129f8f1974b3d874ff23bb1e") false
    proved (fun _ h => by cases h) (by kernel_rfl) (fun _ h => by cases h) parseOrder_row_tie rfl ⟨rfl, rfl⟩ (by kernel_rfl) rfl
    (fun f fn hf hfn => by
      obtain rfl : f = 3 := Option.some.inj ((show Tryz.prog.funcNamed "lazarus/lazaruslaw10.ParseOrder" = some 3 by kernel_rfl).symm.trans hf) |>.symm
      obtain rfl : fn = Tryz.f3 := (Option.some.inj (Tryz.func3.symm.trans hfn)).symm
      exact ⟨by kernel_rfl, fun j t ht => by
        rw [Tryz.params3] at ht
        have ht' : t = 3 := by
          rcases j with _ | j
          all_goals simp at ht
          all_goals simp [← ht]
        rcases ht' with rfl
        · exact (show Tryz.prog.wantsStandIn 3 = false by kernel_rfl)⟩)
    (by kernel_rfl)
#print axioms card
end Go.Proofs.YtfoeolikeakkhaaGreatDoor.parseOrder
