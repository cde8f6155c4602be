import Derived.Test.YtnjfcaphpemihaaGreatDoorPcK
import Derived.Test.YtnjfcaphpemihaaGreatDoorEwL
namespace Pc
open Go Go.Proofs Ev
set_option linter.unusedVariables false
set_option linter.unusedSimpArgs false
set_option maxRecDepth 100000
def eqCalls (l r : List (List D)) : Prop := l.length = r.length ∧ ∀ (i : Nat) x y, l[i]? = some x → r[i]? = some y → SameC x y
theorem goC_sameC {E : Env} {f : Nat} {x y : List D} {s : St} {K : V → St → Prop} (hx : E.ext.get f = some (.fn (ofG RSameC) [])) (h1 : GoodC x) (h2 : GoodC y) (hk : ∀ t : Bool, (t = true ↔ SameC x y) → K (.w (.c (.bool t))) s) : goC E f [.agg (cellsD x), .agg (cellsD y)] s K := by
  obtain ⟨t, ht⟩ : ∃ t : Bool, t = true ↔ SameC x y := by
    by_cases h : SameC x y
    · exact ⟨true, by simp [h]⟩
    · exact ⟨false, by simp [h]⟩
  exact goC_of (callR_sameC hx h1 h2 ht) (hk t ht)
def SameF (x y : List D) : Prop := x.getD 0 .nils = y.getD 0 .nils ∧ x.getD 1 .nils = y.getD 1 .nils ∧ x.getD 2 .nils = y.getD 2 .nils ∧ els (x.getD 3 .nils) = els (y.getD 3 .nils) ∧ els (x.getD 4 .nils) = els (y.getD 4 .nils)
end Pc
