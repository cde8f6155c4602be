/-
  DERIVED. GIVEN WITH THE SEED: THE CARDS: each row of YtnjfcaphpemihaaGreatDoorRows.lean that lists a variable, with what it lists TIED to the program's text (the seventh form; the later family's looks); each row that meets fmt, with fmt's text TOLD by the authors' own Lean function (tested against real Go, not proved from fmt's source: count such statements apart). THE CARD IS WHAT COUNTS. Prove the row's statement (the work); the ties are given (YtnjfcaphpemihaaGreatDoorTie.lean); close each card by the builder's one call (the guide's Derived/Test/ToyasCard.lean, 'card_holds'). Laid BY PROGRAM, IN A SANDBOX (cutbox-door.mjs). By AI agents, Wed Nov 11 2026. No macro, syntax, notation, axiom, sorry.
-/
import Derived.Test.YtnjfcaphpemihaaGreatDoorRows
import GoSem.ClaimSeven
namespace Go.Proofs.YtnjfcaphpemihaaGreatDoor
namespace Rows

/-- THE TIED CARD OF 'lazaruslaw26.PlayCalls'. -/
def playCallsCard : Claim7 := { stood := { row := playCallsRow, standIns := [], harness := (true, "c1572edfddfaa369cdcd6154b6e7d49faac39086b15bec40546b4f1d5cb1e6d1"), looks := true }, kinds := [], alts := [], laidByText := true, laidKinds := [.pinned, .data, .data, .listed, .sentinel, .sentinel, .data, .data, .data], laidTests := true, laidLooks := .later }
def PlayCallsCardSaid : Prop := Claim7.holds Tryz.pinned (.plain (OpenSpec.ofChange playCallsSpec)) playCallsCard

/-- THE SECOND FORM's CARD OF 'lazaruslaw26.PlayCalls'. -/
def playCallsUptoCard : Claim7 := { stood := { row := playCallsUptoRow, standIns := [], harness := (true, "c1572edfddfaa369cdcd6154b6e7d49faac39086b15bec40546b4f1d5cb1e6d1"), looks := true }, kinds := [], alts := [], laidByText := true, laidKinds := [.pinned, .data, .data, .listed, .sentinel, .sentinel, .data, .data, .data], laidTests := true, laidLooks := .later }
def PlayCallsUptoCardSaid : Prop := Claim7.holds Tryz.pinned (.plain (OpenSpec.upto playCallsSpec)) playCallsUptoCard
end Rows
end Go.Proofs.YtnjfcaphpemihaaGreatDoor
