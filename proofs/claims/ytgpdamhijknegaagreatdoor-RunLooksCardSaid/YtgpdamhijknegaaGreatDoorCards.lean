/-
  DERIVED. GIVEN WITH THE SEED: THE CARDS: each row of YtgpdamhijknegaaGreatDoorRows.lean that lists a variable, with what it lists TIED to the program's text (the seventh form; the later family's looks); each row that meets fmt, with fmt's text TOLD by the authors' own Lean function (tested against real Go, not proved from fmt's source: count such statements apart). THE CARD IS WHAT COUNTS. Prove the row's statement (the work); the ties are given (YtgpdamhijknegaaGreatDoorTie.lean); close each card by the builder's one call (the guide's Derived/Test/ToyasCard.lean, 'card_holds'). Laid BY PROGRAM, IN A SANDBOX (cutbox-door.mjs). By AI agents, Wed Nov 11 2026. No macro, syntax, notation, axiom, sorry.
-/
import Derived.Test.YtgpdamhijknegaaGreatDoorRows
import GoSem.ClaimSeven
namespace Go.Proofs.YtgpdamhijknegaaGreatDoor
namespace Rows

/-- THE TIED CARD OF 'lazaruslaw24.RunLooks'. -/
def runLooksCard : Claim7 := { stood := { row := runLooksRow, standIns := [], harness := (true, "434054d07a4106375e786b92947d7c536ff6e02b7e29ae6353929be70452a736"), looks := true }, kinds := [], alts := [], laidByText := true, laidKinds := [.data, .data, .data, .data, .sentinel, .sentinel, .listed, .data, .pinned], laidTests := true, laidLooks := .later }
def RunLooksCardSaid : Prop := Claim7.holds Tryz.pinned (.plain (OpenSpec.ofChange runLooksSpec)) runLooksCard

/-- THE SECOND FORM's CARD OF 'lazaruslaw24.RunLooks'. -/
def runLooksUptoCard : Claim7 := { stood := { row := runLooksUptoRow, standIns := [], harness := (true, "434054d07a4106375e786b92947d7c536ff6e02b7e29ae6353929be70452a736"), looks := true }, kinds := [], alts := [], laidByText := true, laidKinds := [.data, .data, .data, .data, .sentinel, .sentinel, .listed, .data, .pinned], laidTests := true, laidLooks := .later }
def RunLooksUptoCardSaid : Prop := Claim7.holds Tryz.pinned (.plain (OpenSpec.upto runLooksSpec)) runLooksUptoCard
end Rows
end Go.Proofs.YtgpdamhijknegaaGreatDoor
