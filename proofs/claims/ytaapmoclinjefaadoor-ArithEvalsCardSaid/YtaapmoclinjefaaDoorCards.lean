/-
  DERIVED. GIVEN WITH THE SEED: THE CARDS: each row of YtaapmoclinjefaaDoorRows.lean that lists a variable, with what it lists TIED to the program's text (the seventh form; the later family's looks); each row that meets fmt, with fmt's text TOLD by the authors' own Lean function (tested against real Go, not proved from fmt's source: count such statements apart). THE CARD IS WHAT COUNTS. Prove the row's statement (the work); the ties are given (YtaapmoclinjefaaDoorTie.lean); close each card by the builder's one call (the guide's Derived/Test/ToyasCard.lean, 'card_holds'). Laid BY PROGRAM, IN A SANDBOX (cutbox-door.mjs). By AI agents, Wed Nov 11 2026. No macro, syntax, notation, axiom, sorry.
-/
import Derived.Test.YtaapmoclinjefaaDoorRows
import GoSem.ClaimSeven
namespace Go.Proofs.YtaapmoclinjefaaDoor
namespace Rows

/-- THE TIED CARD OF 'lazaruslaw12.ArithEvals'. -/
def arithEvalsCard : Claim7 := { stood := { row := arithEvalsRow, standIns := [], harness := (true, "6feec488305a211a59bdbd0d9ea7e59dc4ed1509b5872df52089c10fb20baee5"), looks := true }, kinds := [], alts := [], laidByText := true, laidKinds := [.data, .data, .data, .data, .sentinel, .sentinel, .pinned], laidTests := true, laidLooks := .later }
def ArithEvalsCardSaid : Prop := Claim7.holds Tryd.pinned (.plain (OpenSpec.ofChange arithEvalsSpec)) arithEvalsCard

/-- THE TIED CARD OF 'lazaruslaw12.ArithSums'. -/
def arithSumsCard : Claim7 := { stood := { row := arithSumsRow, standIns := [], harness := (true, "6feec488305a211a59bdbd0d9ea7e59dc4ed1509b5872df52089c10fb20baee5"), looks := true }, kinds := [], alts := [], laidByText := true, laidKinds := [.data, .data, .data, .data, .sentinel, .sentinel, .pinned], laidTests := true, laidLooks := .later }
def ArithSumsCardSaid : Prop := Claim7.holds Tryd.pinned (.plain (OpenSpec.ofChange arithSumsSpec)) arithSumsCard

/-- THE TIED CARD OF 'lazaruslaw12.ArithBlanks'. -/
def arithBlanksCard : Claim7 := { stood := { row := arithBlanksRow, standIns := [], harness := (true, "6feec488305a211a59bdbd0d9ea7e59dc4ed1509b5872df52089c10fb20baee5"), looks := true }, kinds := [], alts := [], laidByText := true, laidKinds := [.data, .data, .data, .data, .sentinel, .sentinel, .pinned], laidTests := true, laidLooks := .later }
def ArithBlanksCardSaid : Prop := Claim7.holds Tryd.pinned (.plain (OpenSpec.ofChange arithBlanksSpec)) arithBlanksCard

/-- THE SECOND FORM's CARD OF 'lazaruslaw12.ArithEvals'. -/
def arithEvalsUptoCard : Claim7 := { stood := { row := arithEvalsUptoRow, standIns := [], harness := (true, "6feec488305a211a59bdbd0d9ea7e59dc4ed1509b5872df52089c10fb20baee5"), looks := true }, kinds := [], alts := [], laidByText := true, laidKinds := [.data, .data, .data, .data, .sentinel, .sentinel, .pinned], laidTests := true, laidLooks := .later }
def ArithEvalsUptoCardSaid : Prop := Claim7.holds Tryd.pinned (.plain (OpenSpec.upto arithEvalsSpec)) arithEvalsUptoCard

/-- THE SECOND FORM's CARD OF 'lazaruslaw12.ArithSums'. -/
def arithSumsUptoCard : Claim7 := { stood := { row := arithSumsUptoRow, standIns := [], harness := (true, "6feec488305a211a59bdbd0d9ea7e59dc4ed1509b5872df52089c10fb20baee5"), looks := true }, kinds := [], alts := [], laidByText := true, laidKinds := [.data, .data, .data, .data, .sentinel, .sentinel, .pinned], laidTests := true, laidLooks := .later }
def ArithSumsUptoCardSaid : Prop := Claim7.holds Tryd.pinned (.plain (OpenSpec.upto arithSumsSpec)) arithSumsUptoCard

/-- THE SECOND FORM's CARD OF 'lazaruslaw12.ArithBlanks'. -/
def arithBlanksUptoCard : Claim7 := { stood := { row := arithBlanksUptoRow, standIns := [], harness := (true, "6feec488305a211a59bdbd0d9ea7e59dc4ed1509b5872df52089c10fb20baee5"), looks := true }, kinds := [], alts := [], laidByText := true, laidKinds := [.data, .data, .data, .data, .sentinel, .sentinel, .pinned], laidTests := true, laidLooks := .later }
def ArithBlanksUptoCardSaid : Prop := Claim7.holds Tryd.pinned (.plain (OpenSpec.upto arithBlanksSpec)) arithBlanksUptoCard
end Rows
end Go.Proofs.YtaapmoclinjefaaDoor
