import Derived.Test.YtnjfcaphpemihaaGreatDoorPcG
import Derived.Test.YtnjfcaphpemihaaGreatDoorEwL
namespace Pc
open Go Go.Proofs Ev
set_option linter.unusedVariables false
set_option linter.unusedSimpArgs false
set_option maxRecDepth 100000
theorem sameC_symm {x y : List D} (h : SameC x y) : SameC y x := ⟨h.1.symm, h.2.1.symm, h.2.2.1.symm, h.2.2.2.symm⟩
def RSameC (ps : List PW) (v : PV) : Prop := ∃ x y, ∃ t : Bool, ps = [.agg x, .agg y] ∧ GoodC x ∧ GoodC y ∧ (t = true ↔ SameC x y) ∧ v = .w (.c (.bool t))
theorem callR_sameC {E : Env} {f : Nat} {x y : List D} {s : St} (hx : E.ext.get f = some (.fn (ofG RSameC) [])) (h1 : GoodC x) (h2 : GoodC y) {t : Bool} (ht : t = true ↔ SameC x y) : CallR E f [.agg (cellsD x), .agg (cellsD y)] s (.w (.c (.bool t))) s :=
  callR_fn (ps := [.agg x, .agg y]) (pv := .w (.c (.bool t))) hx (ofG_eq ⟨x, y, t, rfl, h1, h2, ht, rfl⟩ (by
    rintro v' ⟨x', y', t', e1, _, _, e2, rfl⟩
    cases e1
    have : t' = t := by rw [Bool.eq_iff_iff, e2, ht]
    rw [this])) (by simp [PW.plain, goodC_plain h1, goodC_plain h2])
end Pc
