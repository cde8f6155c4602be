/-
  The card of 'Rows.PlayCallsCardSaid': the row's statement (proved in PcfN), what it lists of package variables tied to the program's text (PcT). No further condition.
-/
import Derived.Test.YtnjfcaphpemihaaGreatDoorCards
import Derived.Test.YtnjfcaphpemihaaGreatDoorPcT
import Derived.Test.YtnjfcaphpemihaaGreatDoorPcCa
import Derived.Test.YtnjfcaphpemihaaGreatDoorPcCb
import Derived.Test.YtnjfcaphpemihaaGreatDoorPcCc
import Derived.Test.YtnjfcaphpemihaaGreatDoorPcCd
import Derived.Test.YtnjfcaphpemihaaGreatDoorPcfN
namespace Go.Proofs.YtnjfcaphpemihaaGreatDoor.playCalls
open Go

theorem card : Rows.PlayCallsCardSaid :=
  Claim7.holds_tied_plain_at .later [] [.pinned, .data, .data, .listed, .sentinel, .sentinel, .data, .data, .data] true (true, "c1572edfddfaa369cdcd6154b6e7d49faac39086b15bec40546b4f1d5cb1e6d1") true
    proved (fun _ h => by cases h) c_wf (fun _ h => by cases h) playCalls_row_tie rfl ⟨rfl, rfl⟩ c_main rfl
    (fun f fn hf hfn => by
      obtain rfl : f = 3 := Option.some.inj (c_name.symm.trans hf) |>.symm
      obtain rfl : fn = Tryz.f3 := (Option.some.inj (Tryz.func3.symm.trans hfn)).symm
      exact ⟨c_looks, fun j t ht => by
        rw [Tryz.params3] at ht
        have ht' : t = 22 := by
          rcases j with _ | j
          all_goals simp at ht
          all_goals simp [← ht]
        rcases ht' with rfl
        · exact c_stand⟩)
    c_goes
#print axioms card
end Go.Proofs.YtnjfcaphpemihaaGreatDoor.playCalls
