/-
  DERIVED. GIVEN WITH THE SEED: THE CARDS: each row of YtoibclnkbfgmhaaDoorRows.lean that lists a variable, with what it lists TIED to the program's text (the seventh form; the later family's looks); each row that meets fmt, with fmt's text TOLD by the authors' own Lean function (tested against real Go, not proved from fmt's source: count such statements apart). THE CARD IS WHAT COUNTS. Prove the row's statement (the work); the ties are given (YtoibclnkbfgmhaaDoorTie.lean); close each card by the builder's one call (the guide's Derived/Test/ToyasCard.lean, 'card_holds'). Laid BY PROGRAM, IN A SANDBOX (cutbox-door.mjs). By AI agents, Wed Nov 11 2026. No macro, syntax, notation, axiom, sorry.
-/
import Derived.Test.YtoibclnkbfgmhaaDoorRows
import GoSem.ClaimSeven
namespace Go.Proofs.YtoibclnkbfgmhaaDoor
namespace Rows

/-- THE TIED CARD OF 'lazaruslaw12.ArithNums'. -/
def arithNumsCard : Claim7 := { stood := { row := arithNumsRow, standIns := [], harness := (true, "5661ebabb3c388e41f80b748f2b0e0e59357e2a615c532ce06907def1b6a9762"), looks := true }, kinds := [], alts := [], laidByText := true, laidKinds := [.data, .data, .data, .data, .sentinel, .sentinel, .pinned], laidTests := true, laidLooks := .later }
def ArithNumsCardSaid : Prop := Claim7.holds Tryd.pinned (.plain (OpenSpec.ofChange arithNumsSpec)) arithNumsCard

/-- THE SECOND FORM's CARD OF 'lazaruslaw12.ArithNums'. -/
def arithNumsUptoCard : Claim7 := { stood := { row := arithNumsUptoRow, standIns := [], harness := (true, "5661ebabb3c388e41f80b748f2b0e0e59357e2a615c532ce06907def1b6a9762"), looks := true }, kinds := [], alts := [], laidByText := true, laidKinds := [.data, .data, .data, .data, .sentinel, .sentinel, .pinned], laidTests := true, laidLooks := .later }
def ArithNumsUptoCardSaid : Prop := Claim7.holds Tryd.pinned (.plain (OpenSpec.upto arithNumsSpec)) arithNumsUptoCard
end Rows
end Go.Proofs.YtoibclnkbfgmhaaDoor
