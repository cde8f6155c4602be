import Derived.Test.YtnjfcaphpemihaaGreatDoorPcN
import Derived.Test.YtnjfcaphpemihaaGreatDoorEwG
import Derived.Test.YtnjfcaphpemihaaGreatDoorEwL
namespace Pc
open Go Go.Proofs Ev
set_option linter.unusedVariables false
set_option linter.unusedSimpArgs false
set_option maxRecDepth 100000
theorem goodO_calls {w : List D} (h : GoodO w) : ∃ ca, (cellsD w)[5]? = some ca.toC ∧ callsO w = els ca ∧ Good 4 GoodC ca := by
  obtain ⟨e, st, ot, fl, vr, ca, rfl, _, _, h⟩ := h
  exact ⟨ca, rfl, rfl, h⟩
theorem callR_list {E : Env} {f : Nat} {F : List (List D) → List (List D)} {d : D} {s : St} (hx : E.ext.get f = some (.fn (ofG (RList F)) [])) (hd : Good 6 GoodO d) (hn : (allD (els d)).length ≤ 1000) :
    CallR E f [.c d.toC] s (.w (.c (slD 4 (F (allD (els d)))).toC)) s :=
  callR_fn (ps := [.c d]) (pv := .w (.c (slD 4 (F (allD (els d)))))) hx (ofG_eq ⟨d, rfl, hd, hn, rfl⟩ (by
    rintro v' ⟨d', h1, _, _, rfl⟩
    cases h1; rfl)) (by simp [PW.plain, isels_plain hd.el])
theorem lastN_le (l : List (List D)) : (lastD l).length ≤ l.length := lastP_le l l.length
end Pc
