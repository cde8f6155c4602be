/-
  DERIVED. GIVEN WITH THE SEED: THE CARDS: each row of YtjmnhilkgjfllaaGreatDoorRows.lean that lists a variable, with what it lists TIED to the program's text (the seventh form; the later family's looks); each row that meets fmt, with fmt's text TOLD by the authors' own Lean function (tested against real Go, not proved from fmt's source: count such statements apart). THE CARD IS WHAT COUNTS. Prove the row's statement (the work); the ties are given (YtjmnhilkgjfllaaGreatDoorTie.lean); close each card by the builder's one call (the guide's Derived/Test/ToyasCard.lean, 'card_holds'). Laid BY PROGRAM, IN A SANDBOX (cutbox-door.mjs). By AI agents, Wed Nov 11 2026. No macro, syntax, notation, axiom, sorry.
-/
import Derived.Test.YtjmnhilkgjfllaaGreatDoorRows
import GoSem.ClaimSeven
namespace Go.Proofs.YtjmnhilkgjfllaaGreatDoor
namespace Rows

/-- THE TIED CARD OF 'lazaruslaw16.WordKnown'. -/
def wordKnownCard : Claim7 := { stood := { row := wordKnownRow, standIns := [], harness := (true, "d59f272a283f3025a35949c78d33c32a495d5ab494e287a903efdeafdc4b7671"), looks := true }, kinds := [], alts := [], laidByText := true, laidKinds := [.data, .data, .data, .data, .sentinel, .sentinel, .pinned], laidTests := true, laidLooks := .later }
def WordKnownCardSaid : Prop := Claim7.holds Tryz.pinned (.plain (OpenSpec.ofChange wordKnownSpec)) wordKnownCard

/-- THE TIED CARD OF 'lazaruslaw16.WordArgs'. -/
def wordArgsCard : Claim7 := { stood := { row := wordArgsRow, standIns := [], harness := (true, "d59f272a283f3025a35949c78d33c32a495d5ab494e287a903efdeafdc4b7671"), looks := true }, kinds := [], alts := [], laidByText := true, laidKinds := [.data, .data, .data, .data, .sentinel, .sentinel, .pinned], laidTests := true, laidLooks := .later }
def WordArgsCardSaid : Prop := Claim7.holds Tryz.pinned (.plain (OpenSpec.ofChange wordArgsSpec)) wordArgsCard

/-- THE TIED CARD OF 'lazaruslaw16.WordErrs'. -/
def wordErrsCard : Claim7 := { stood := { row := wordErrsRow, standIns := [], harness := (true, "d59f272a283f3025a35949c78d33c32a495d5ab494e287a903efdeafdc4b7671"), looks := true }, kinds := [], alts := [], laidByText := true, laidKinds := [.data, .data, .data, .data, .sentinel, .sentinel, .pinned], laidTests := true, laidLooks := .later }
def WordErrsCardSaid : Prop := Claim7.holds Tryz.pinned (.plain (OpenSpec.ofChange wordErrsSpec)) wordErrsCard

/-- THE SECOND FORM's CARD OF 'lazaruslaw16.WordKnown'. -/
def wordKnownUptoCard : Claim7 := { stood := { row := wordKnownUptoRow, standIns := [], harness := (true, "d59f272a283f3025a35949c78d33c32a495d5ab494e287a903efdeafdc4b7671"), looks := true }, kinds := [], alts := [], laidByText := true, laidKinds := [.data, .data, .data, .data, .sentinel, .sentinel, .pinned], laidTests := true, laidLooks := .later }
def WordKnownUptoCardSaid : Prop := Claim7.holds Tryz.pinned (.plain (OpenSpec.upto wordKnownSpec)) wordKnownUptoCard

/-- THE SECOND FORM's CARD OF 'lazaruslaw16.WordArgs'. -/
def wordArgsUptoCard : Claim7 := { stood := { row := wordArgsUptoRow, standIns := [], harness := (true, "d59f272a283f3025a35949c78d33c32a495d5ab494e287a903efdeafdc4b7671"), looks := true }, kinds := [], alts := [], laidByText := true, laidKinds := [.data, .data, .data, .data, .sentinel, .sentinel, .pinned], laidTests := true, laidLooks := .later }
def WordArgsUptoCardSaid : Prop := Claim7.holds Tryz.pinned (.plain (OpenSpec.upto wordArgsSpec)) wordArgsUptoCard

/-- THE SECOND FORM's CARD OF 'lazaruslaw16.WordErrs'. -/
def wordErrsUptoCard : Claim7 := { stood := { row := wordErrsUptoRow, standIns := [], harness := (true, "d59f272a283f3025a35949c78d33c32a495d5ab494e287a903efdeafdc4b7671"), looks := true }, kinds := [], alts := [], laidByText := true, laidKinds := [.data, .data, .data, .data, .sentinel, .sentinel, .pinned], laidTests := true, laidLooks := .later }
def WordErrsUptoCardSaid : Prop := Claim7.holds Tryz.pinned (.plain (OpenSpec.upto wordErrsSpec)) wordErrsUptoCard
end Rows
end Go.Proofs.YtjmnhilkgjfllaaGreatDoor
