/-
  DERIVED. GIVEN WITH THE SEED: THE CARDS: each row of YtcgjhfogkligdaaDoorRows.lean that lists a variable, with what it lists TIED to the program's text (the seventh form; the later family's looks); each row that meets fmt, with fmt's text TOLD by the authors' own Lean function (tested against real Go, not proved from fmt's source: count such statements apart). THE CARD IS WHAT COUNTS. Prove the row's statement (the work); the ties are given (YtcgjhfogkligdaaDoorTie.lean); close each card by the builder's one call (the guide's Derived/Test/ToyasCard.lean, 'card_holds'). Laid BY PROGRAM, IN A SANDBOX (cutbox-door.mjs). By AI agents, Wed Nov 11 2026. No macro, syntax, notation, axiom, sorry.
-/
import Derived.Test.YtcgjhfogkligdaaDoorRows
import GoSem.ClaimSeven
namespace Go.Proofs.YtcgjhfogkligdaaDoor
namespace Rows

/-- THE TIED CARD OF 'lazaruslaw8.LexWords'. -/
def lexWordsCard : Claim7 := { stood := { row := lexWordsRow, standIns := [], harness := (true, "17e4d228717495981d62ed37a594518c405b8d22f0bf35e5d93acc14bb0d36b4"), looks := true }, kinds := [], alts := [], laidByText := true, laidKinds := [.data, .pinned], laidTests := true, laidLooks := .later }
def LexWordsCardSaid : Prop := Claim7.holds Tryd.pinned (.plain (OpenSpec.ofChange lexWordsSpec)) lexWordsCard

/-- THE TIED CARD OF 'lazaruslaw8.LexSigns'. -/
def lexSignsCard : Claim7 := { stood := { row := lexSignsRow, standIns := [], harness := (true, "17e4d228717495981d62ed37a594518c405b8d22f0bf35e5d93acc14bb0d36b4"), looks := true }, kinds := [], alts := [], laidByText := true, laidKinds := [.data, .pinned], laidTests := true, laidLooks := .later }
def LexSignsCardSaid : Prop := Claim7.holds Tryd.pinned (.plain (OpenSpec.ofChange lexSignsSpec)) lexSignsCard

/-- THE TIED CARD OF 'lazaruslaw8.LexDeep'. -/
def lexDeepCard : Claim7 := { stood := { row := lexDeepRow, standIns := [], harness := (true, "17e4d228717495981d62ed37a594518c405b8d22f0bf35e5d93acc14bb0d36b4"), looks := true }, kinds := [], alts := [], laidByText := true, laidKinds := [.data, .pinned], laidTests := true, laidLooks := .later }
def LexDeepCardSaid : Prop := Claim7.holds Tryd.pinned (.plain (OpenSpec.ofChange lexDeepSpec)) lexDeepCard

/-- THE TIED CARD OF 'lazaruslaw12.ArithKnown'. -/
def arithKnownCard : Claim7 := { stood := { row := arithKnownRow, standIns := [], harness := (true, "17e4d228717495981d62ed37a594518c405b8d22f0bf35e5d93acc14bb0d36b4"), looks := true }, kinds := [], alts := [], laidByText := true, laidKinds := [.data, .data, .data, .data, .sentinel, .sentinel, .pinned], laidTests := true, laidLooks := .later }
def ArithKnownCardSaid : Prop := Claim7.holds Tryd.pinned (.plain (OpenSpec.ofChange arithKnownSpec)) arithKnownCard

/-- THE SECOND FORM's CARD OF 'lazaruslaw8.LexWords'. -/
def lexWordsUptoCard : Claim7 := { stood := { row := lexWordsUptoRow, standIns := [], harness := (true, "17e4d228717495981d62ed37a594518c405b8d22f0bf35e5d93acc14bb0d36b4"), looks := true }, kinds := [], alts := [], laidByText := true, laidKinds := [.data, .pinned], laidTests := true, laidLooks := .later }
def LexWordsUptoCardSaid : Prop := Claim7.holds Tryd.pinned (.plain (OpenSpec.upto lexWordsSpec)) lexWordsUptoCard

/-- THE SECOND FORM's CARD OF 'lazaruslaw8.LexSigns'. -/
def lexSignsUptoCard : Claim7 := { stood := { row := lexSignsUptoRow, standIns := [], harness := (true, "17e4d228717495981d62ed37a594518c405b8d22f0bf35e5d93acc14bb0d36b4"), looks := true }, kinds := [], alts := [], laidByText := true, laidKinds := [.data, .pinned], laidTests := true, laidLooks := .later }
def LexSignsUptoCardSaid : Prop := Claim7.holds Tryd.pinned (.plain (OpenSpec.upto lexSignsSpec)) lexSignsUptoCard

/-- THE SECOND FORM's CARD OF 'lazaruslaw8.LexDeep'. -/
def lexDeepUptoCard : Claim7 := { stood := { row := lexDeepUptoRow, standIns := [], harness := (true, "17e4d228717495981d62ed37a594518c405b8d22f0bf35e5d93acc14bb0d36b4"), looks := true }, kinds := [], alts := [], laidByText := true, laidKinds := [.data, .pinned], laidTests := true, laidLooks := .later }
def LexDeepUptoCardSaid : Prop := Claim7.holds Tryd.pinned (.plain (OpenSpec.upto lexDeepSpec)) lexDeepUptoCard

/-- THE SECOND FORM's CARD OF 'lazaruslaw12.ArithKnown'. -/
def arithKnownUptoCard : Claim7 := { stood := { row := arithKnownUptoRow, standIns := [], harness := (true, "17e4d228717495981d62ed37a594518c405b8d22f0bf35e5d93acc14bb0d36b4"), looks := true }, kinds := [], alts := [], laidByText := true, laidKinds := [.data, .data, .data, .data, .sentinel, .sentinel, .pinned], laidTests := true, laidLooks := .later }
def ArithKnownUptoCardSaid : Prop := Claim7.holds Tryd.pinned (.plain (OpenSpec.upto arithKnownSpec)) arithKnownUptoCard
end Rows
end Go.Proofs.YtcgjhfogkligdaaDoor
