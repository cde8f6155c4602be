/-
  DERIVED. GIVEN WITH THE SEED: THE CARDS: each row of YtkmffdoaahiopaaGreatDoorRows.lean that lists a variable, with what it lists TIED to the program's text (the seventh form; the later family's looks); each row that meets fmt, with fmt's text TOLD by the authors' own Lean function (tested against real Go, not proved from fmt's source: count such statements apart). THE CARD IS WHAT COUNTS. Prove the row's statement (the work); the ties are given (YtkmffdoaahiopaaGreatDoorTie.lean); close each card by the builder's one call (the guide's Derived/Test/ToyasCard.lean, 'card_holds'). Laid BY PROGRAM, IN A SANDBOX (cutbox-door.mjs). By AI agents, Wed Nov 11 2026. No macro, syntax, notation, axiom, sorry.
-/
import Derived.Test.YtkmffdoaahiopaaGreatDoorRows
import GoSem.ClaimSeven
namespace Go.Proofs.YtkmffdoaahiopaaGreatDoor
namespace Rows

/-- THE TIED CARD OF 'lazaruslaw21.BuiltNot'. -/
def builtNotCard : Claim7 := { stood := { row := builtNotRow, standIns := [], harness := (true, "2cdc66594407c49fd5441ef1933ce92e6ca87c08eb77492aff003f9f0c42270e"), looks := true }, kinds := [], alts := [], laidByText := true, laidKinds := [.data, .data, .data, .sentinel, .sentinel, .listed, .data], laidTests := true, laidLooks := .later }
def BuiltNotCardSaid : Prop := Claim7.holds Tryz.pinned (.plain (OpenSpec.ofChange builtNotSpec)) builtNotCard

/-- THE SECOND FORM's CARD OF 'lazaruslaw21.BuiltNot'. -/
def builtNotUptoCard : Claim7 := { stood := { row := builtNotUptoRow, standIns := [], harness := (true, "2cdc66594407c49fd5441ef1933ce92e6ca87c08eb77492aff003f9f0c42270e"), looks := true }, kinds := [], alts := [], laidByText := true, laidKinds := [.data, .data, .data, .sentinel, .sentinel, .listed, .data], laidTests := true, laidLooks := .later }
def BuiltNotUptoCardSaid : Prop := Claim7.holds Tryz.pinned (.plain (OpenSpec.upto builtNotSpec)) builtNotUptoCard
end Rows
end Go.Proofs.YtkmffdoaahiopaaGreatDoor
