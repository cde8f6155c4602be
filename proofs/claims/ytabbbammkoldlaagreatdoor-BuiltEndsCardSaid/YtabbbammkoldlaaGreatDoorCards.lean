/-
  DERIVED. GIVEN WITH THE SEED: THE CARDS: each row of YtabbbammkoldlaaGreatDoorRows.lean that lists a variable, with what it lists TIED to the program's text (the seventh form; the later family's looks); each row that meets fmt, with fmt's text TOLD by the authors' own Lean function (tested against real Go, not proved from fmt's source: count such statements apart). THE CARD IS WHAT COUNTS. Prove the row's statement (the work); the ties are given (YtabbbammkoldlaaGreatDoorTie.lean); close each card by the builder's one call (the guide's Derived/Test/ToyasCard.lean, 'card_holds'). Laid BY PROGRAM, IN A SANDBOX (cutbox-door.mjs). By AI agents, Wed Nov 11 2026. No macro, syntax, notation, axiom, sorry.
-/
import Derived.Test.YtabbbammkoldlaaGreatDoorRows
import GoSem.ClaimSeven
namespace Go.Proofs.YtabbbammkoldlaaGreatDoor
namespace Rows

/-- THE TIED CARD OF 'lazaruslaw21.BuiltEnds'. -/
def builtEndsCard : Claim7 := { stood := { row := builtEndsRow, standIns := [], harness := (true, "c2bcc080a1f8dbf3253e90d6e0adb75a8983b60e71a343a57d5dc67a4cbca9db"), looks := true }, kinds := [], alts := [], laidByText := true, laidKinds := [.data, .data, .data, .sentinel, .sentinel, .listed, .data], laidTests := true, laidLooks := .later }
def BuiltEndsCardSaid : Prop := Claim7.holds Tryz.pinned (.plain (OpenSpec.ofChange builtEndsSpec)) builtEndsCard

/-- THE SECOND FORM's CARD OF 'lazaruslaw21.BuiltEnds'. -/
def builtEndsUptoCard : Claim7 := { stood := { row := builtEndsUptoRow, standIns := [], harness := (true, "c2bcc080a1f8dbf3253e90d6e0adb75a8983b60e71a343a57d5dc67a4cbca9db"), looks := true }, kinds := [], alts := [], laidByText := true, laidKinds := [.data, .data, .data, .sentinel, .sentinel, .listed, .data], laidTests := true, laidLooks := .later }
def BuiltEndsUptoCardSaid : Prop := Claim7.holds Tryz.pinned (.plain (OpenSpec.upto builtEndsSpec)) builtEndsUptoCard
end Rows
end Go.Proofs.YtabbbammkoldlaaGreatDoor
