/-
  DERIVED. GIVEN WITH THE SEED: THE CARDS: each row of YtfoeolikeakkhaaDoorRows.lean that lists a variable, with what it lists TIED to the program's text (the seventh form; the later family's looks); each row that meets fmt, with fmt's text TOLD by the authors' own Lean function (tested against real Go, not proved from fmt's source: count such statements apart). THE CARD IS WHAT COUNTS. Prove the row's statement (the work); the ties are given (YtfoeolikeakkhaaDoorTie.lean); close each card by the builder's one call (the guide's Derived/Test/ToyasCard.lean, 'card_holds'). Laid BY PROGRAM, IN A SANDBOX (cutbox-door.mjs). By AI agents, Wed Nov 11 2026. No macro, syntax, notation, axiom, sorry.
-/
import Derived.Test.YtfoeolikeakkhaaDoorRows
import GoSem.ClaimSeven
namespace Go.Proofs.YtfoeolikeakkhaaDoor
namespace Rows

/-- THE TIED CARD OF 'lazaruslaw10.ParseOdd'. -/
def parseOddCard : Claim7 := { stood := { row := parseOddRow, standIns := [], harness := (true, "76c47149e877687d9d90d603b06e9b4b7067aa7e2fc4b7e686d17605e6612345"), looks := false }, kinds := [], alts := [], laidByText := true, laidKinds := [.data, .listed, .data, .pinned], laidTests := true, laidLooks := .later }
def ParseOddCardSaid : Prop := Claim7.holds Tryd.pinned (.plain (OpenSpec.ofChange parseOddSpec)) parseOddCard

/-- THE TIED CARD OF 'lazaruslaw10.ParseDeep'. -/
def parseDeepCard : Claim7 := { stood := { row := parseDeepRow, standIns := [], harness := (true, "76c47149e877687d9d90d603b06e9b4b7067aa7e2fc4b7e686d17605e6612345"), looks := false }, kinds := [], alts := [], laidByText := true, laidKinds := [.data, .listed, .data, .pinned], laidTests := true, laidLooks := .later }
def ParseDeepCardSaid : Prop := Claim7.holds Tryd.pinned (.plain (OpenSpec.ofChange parseDeepSpec)) parseDeepCard

/-- THE SECOND FORM's CARD OF 'lazaruslaw10.ParseOdd'. -/
def parseOddUptoCard : Claim7 := { stood := { row := parseOddUptoRow, standIns := [], harness := (true, "76c47149e877687d9d90d603b06e9b4b7067aa7e2fc4b7e686d17605e6612345"), looks := false }, kinds := [], alts := [], laidByText := true, laidKinds := [.data, .listed, .data, .pinned], laidTests := true, laidLooks := .later }
def ParseOddUptoCardSaid : Prop := Claim7.holds Tryd.pinned (.plain (OpenSpec.upto parseOddSpec)) parseOddUptoCard

/-- THE SECOND FORM's CARD OF 'lazaruslaw10.ParseDeep'. -/
def parseDeepUptoCard : Claim7 := { stood := { row := parseDeepUptoRow, standIns := [], harness := (true, "76c47149e877687d9d90d603b06e9b4b7067aa7e2fc4b7e686d17605e6612345"), looks := false }, kinds := [], alts := [], laidByText := true, laidKinds := [.data, .listed, .data, .pinned], laidTests := true, laidLooks := .later }
def ParseDeepUptoCardSaid : Prop := Claim7.holds Tryd.pinned (.plain (OpenSpec.upto parseDeepSpec)) parseDeepUptoCard
end Rows
end Go.Proofs.YtfoeolikeakkhaaDoor
