/-
  DERIVED. GIVEN WITH THE SEED: THE CARDS: each row of YtpkjpkfamdmgiaaGreatDoorRows.lean that lists a variable, with what it lists TIED to the program's text (the seventh form; the later family's looks); each row that meets fmt, with fmt's text TOLD by the authors' own Lean function (tested against real Go, not proved from fmt's source: count such statements apart). THE CARD IS WHAT COUNTS. Prove the row's statement (the work); the ties are given (YtpkjpkfamdmgiaaGreatDoorTie.lean); close each card by the builder's one call (the guide's Derived/Test/ToyasCard.lean, 'card_holds'). Laid BY PROGRAM, IN A SANDBOX (cutbox-door.mjs). By AI agents, Wed Nov 11 2026. No macro, syntax, notation, axiom, sorry.
-/
import Derived.Test.YtpkjpkfamdmgiaaGreatDoorRows
import GoSem.ClaimSeven
namespace Go.Proofs.YtpkjpkfamdmgiaaGreatDoor
namespace Rows

/-- THE TIED CARD OF 'lazaruslaw16.WordQuoted'. -/
def wordQuotedCard : Claim7 := { stood := { row := wordQuotedRow, standIns := [], harness := (true, "3fe2daaeb9ac131f2992d4d99f99d4c5028a02a9fae2b6487a2d44ebfe2ccf3c"), looks := true }, kinds := [], alts := [], laidByText := true, laidKinds := [.data, .data, .data, .data, .sentinel, .sentinel, .pinned], laidTests := true, laidLooks := .later }
def WordQuotedCardSaid : Prop := Claim7.holds Tryz.pinned (.plain (OpenSpec.ofChange wordQuotedSpec)) wordQuotedCard

/-- THE TIED CARD OF 'lazaruslaw16.WordSets'. -/
def wordSetsCard : Claim7 := { stood := { row := wordSetsRow, standIns := [], harness := (true, "3fe2daaeb9ac131f2992d4d99f99d4c5028a02a9fae2b6487a2d44ebfe2ccf3c"), looks := true }, kinds := [], alts := [], laidByText := true, laidKinds := [.data, .data, .data, .data, .sentinel, .sentinel, .pinned], laidTests := true, laidLooks := .later }
def WordSetsCardSaid : Prop := Claim7.holds Tryz.pinned (.plain (OpenSpec.ofChange wordSetsSpec)) wordSetsCard

/-- THE SECOND FORM's CARD OF 'lazaruslaw16.WordQuoted'. -/
def wordQuotedUptoCard : Claim7 := { stood := { row := wordQuotedUptoRow, standIns := [], harness := (true, "3fe2daaeb9ac131f2992d4d99f99d4c5028a02a9fae2b6487a2d44ebfe2ccf3c"), looks := true }, kinds := [], alts := [], laidByText := true, laidKinds := [.data, .data, .data, .data, .sentinel, .sentinel, .pinned], laidTests := true, laidLooks := .later }
def WordQuotedUptoCardSaid : Prop := Claim7.holds Tryz.pinned (.plain (OpenSpec.upto wordQuotedSpec)) wordQuotedUptoCard

/-- THE SECOND FORM's CARD OF 'lazaruslaw16.WordSets'. -/
def wordSetsUptoCard : Claim7 := { stood := { row := wordSetsUptoRow, standIns := [], harness := (true, "3fe2daaeb9ac131f2992d4d99f99d4c5028a02a9fae2b6487a2d44ebfe2ccf3c"), looks := true }, kinds := [], alts := [], laidByText := true, laidKinds := [.data, .data, .data, .data, .sentinel, .sentinel, .pinned], laidTests := true, laidLooks := .later }
def WordSetsUptoCardSaid : Prop := Claim7.holds Tryz.pinned (.plain (OpenSpec.upto wordSetsSpec)) wordSetsUptoCard
end Rows
end Go.Proofs.YtpkjpkfamdmgiaaGreatDoor
