/-
  The card of 'Rows.ArithEvalsCardSaid': the row's statement (proved in AefN), what it lists of package variables tied to the program's text (the given tie). No further condition.
-/
import Derived.Test.YtaapmoclinjefaaDoorCards
import Derived.Test.YtaapmoclinjefaaDoorTie
import Derived.Test.YtaapmoclinjefaaDoorAefN
namespace Go.Proofs.YtaapmoclinjefaaDoor.arithEvals
open Go

theorem card : Rows.ArithEvalsCardSaid :=
  Claim7.holds_tied_plain_at .later [] [.data, .data, .data, .data, .sentinel, .sentinel, .pinned] true (true, "6feec488305a211a59bdbd0d9ea7e59dc4ed1509b5872df52089c10fb20baee5") true
    proved (fun _ h => by cases h) (by kernel_rfl) (fun _ h => by cases h) arithEvals_row_tie rfl ⟨rfl, rfl⟩ (by kernel_rfl) rfl
    (fun f fn hf hfn => by
      obtain rfl : f = 3 := Option.some.inj ((show Tryd.prog.funcNamed "lazarus/lazaruslaw12.ArithEvals" = some 3 by kernel_rfl).symm.trans hf) |>.symm
      obtain rfl : fn = Tryd.f3 := (Option.some.inj (Tryd.func3.symm.trans hfn)).symm
      exact ⟨by kernel_rfl, fun j t ht => by
        rw [Tryd.params3] at ht
        have ht' : t = 9 ∨ t = 22 := by
          rcases j with _ | _ | j
          all_goals simp at ht
          all_goals simp [← ht]
        rcases ht' with rfl | rfl
        · exact (show Tryd.prog.wantsStandIn 9 = false by kernel_rfl)
        · exact (show Tryd.prog.wantsStandIn 22 = false by kernel_rfl)⟩)
    (by kernel_rfl)
#print axioms card
end Go.Proofs.YtaapmoclinjefaaDoor.arithEvals
