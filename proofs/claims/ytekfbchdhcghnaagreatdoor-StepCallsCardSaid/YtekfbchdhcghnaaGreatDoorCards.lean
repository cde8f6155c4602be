/-
  DERIVED. GIVEN WITH THE SEED: THE CARDS: each row of YtekfbchdhcghnaaGreatDoorRows.lean that lists a variable, with what it lists TIED to the program's text (the seventh form; the later family's looks); each row that meets fmt, with fmt's text TOLD by the authors' own Lean function (tested against real Go, not proved from fmt's source: count such statements apart). THE CARD IS WHAT COUNTS. Prove the row's statement (the work); the ties are given (YtekfbchdhcghnaaGreatDoorTie.lean); close each card by the builder's one call (the guide's Derived/Test/ToyasCard.lean, 'card_holds'). Laid BY PROGRAM, IN A SANDBOX (cutbox-door.mjs). By AI agents, Wed Nov 11 2026. No macro, syntax, notation, axiom, sorry.
-/
import Derived.Test.YtekfbchdhcghnaaGreatDoorRows
import GoSem.ClaimSeven
namespace Go.Proofs.YtekfbchdhcghnaaGreatDoor
namespace Rows

/-- THE TIED CARD OF 'lazaruslaw22.StepKnown'. -/
def stepKnownCard : Claim7 := { stood := { row := stepKnownRow, standIns := [], harness := (true, "0531e10193b4e3ef0a75476a9be0123f80041e4d4470c47bf664c59d03789497"), looks := true }, kinds := [], alts := [], laidByText := true, laidKinds := [.data, .data, .data, .data, .sentinel, .sentinel, .listed, .data, .pinned], laidTests := true, laidLooks := .later }
def StepKnownCardSaid : Prop := Claim7.holds Tryz.pinned (.plain (OpenSpec.ofChange stepKnownSpec)) stepKnownCard

/-- THE TIED CARD OF 'lazaruslaw22.StepCalls'. -/
def stepCallsCard : Claim7 := { stood := { row := stepCallsRow, standIns := [], harness := (true, "0531e10193b4e3ef0a75476a9be0123f80041e4d4470c47bf664c59d03789497"), looks := true }, kinds := [], alts := [], laidByText := true, laidKinds := [.data, .data, .data, .data, .sentinel, .sentinel, .listed, .data, .pinned], laidTests := true, laidLooks := .later }
def StepCallsCardSaid : Prop := Claim7.holds Tryz.pinned (.plain (OpenSpec.ofChange stepCallsSpec)) stepCallsCard

/-- THE SECOND FORM's CARD OF 'lazaruslaw22.StepKnown'. -/
def stepKnownUptoCard : Claim7 := { stood := { row := stepKnownUptoRow, standIns := [], harness := (true, "0531e10193b4e3ef0a75476a9be0123f80041e4d4470c47bf664c59d03789497"), looks := true }, kinds := [], alts := [], laidByText := true, laidKinds := [.data, .data, .data, .data, .sentinel, .sentinel, .listed, .data, .pinned], laidTests := true, laidLooks := .later }
def StepKnownUptoCardSaid : Prop := Claim7.holds Tryz.pinned (.plain (OpenSpec.upto stepKnownSpec)) stepKnownUptoCard

/-- THE SECOND FORM's CARD OF 'lazaruslaw22.StepCalls'. -/
def stepCallsUptoCard : Claim7 := { stood := { row := stepCallsUptoRow, standIns := [], harness := (true, "0531e10193b4e3ef0a75476a9be0123f80041e4d4470c47bf664c59d03789497"), looks := true }, kinds := [], alts := [], laidByText := true, laidKinds := [.data, .data, .data, .data, .sentinel, .sentinel, .listed, .data, .pinned], laidTests := true, laidLooks := .later }
def StepCallsUptoCardSaid : Prop := Claim7.holds Tryz.pinned (.plain (OpenSpec.upto stepCallsSpec)) stepCallsUptoCard
end Rows
end Go.Proofs.YtekfbchdhcghnaaGreatDoor
