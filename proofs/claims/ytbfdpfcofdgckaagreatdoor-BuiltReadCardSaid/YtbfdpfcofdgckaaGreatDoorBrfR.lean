/-
  The card of 'Rows.BuiltReadCardSaid': the row's statement (proved in BrfN), what it lists of package variables tied to the program's text (the given tie). No further condition.
-/
import Derived.Test.YtbfdpfcofdgckaaGreatDoorCards
import Derived.Test.YtbfdpfcofdgckaaGreatDoorTie
import Derived.Test.YtbfdpfcofdgckaaGreatDoorBrfN
namespace Go.Proofs.YtbfdpfcofdgckaaGreatDoor.builtRead
open Go

theorem card : Rows.BuiltReadCardSaid :=
  Claim7.holds_tied_plain_at .later [] [.data, .data, .data, .sentinel, .sentinel, .listed, .data] true (true, "c20a6fcfa5e51538f9a6ba1c957cda6e851ae42119bed560fcf3dbbf5fa647f5") true
    proved (fun _ h => by cases h) (by kernel_rfl) (fun _ h => by cases h) builtRead_row_tie rfl ⟨rfl, rfl⟩ (by kernel_rfl) rfl
    (fun f fn hf hfn => by
      obtain rfl : f = 4 := Option.some.inj ((show Tryz.prog.funcNamed "lazarus/lazaruslaw21.BuiltRead" = some 4 by kernel_rfl).symm.trans hf) |>.symm
      obtain rfl : fn = Tryz.f4 := (Option.some.inj (Tryz.func4.symm.trans hfn)).symm
      exact ⟨by kernel_rfl, fun j t ht => by
        rw [Tryz.params4] at ht
        have ht' : t = 22 := by
          rcases j with _ | j
          all_goals simp at ht
          all_goals simp [← ht]
        rcases ht' with rfl
        · exact (show Tryz.prog.wantsStandIn 22 = false by kernel_rfl)⟩)
    (by kernel_rfl)
#print axioms card
end Go.Proofs.YtbfdpfcofdgckaaGreatDoor.builtRead
