import Derived.Test.YtnjfcaphpemihaaGreatDoorPcO
import Derived.Test.YtnjfcaphpemihaaGreatDoorEwL
namespace Pc
open Go Go.Proofs Ev
set_option linter.unusedVariables false
set_option linter.unusedSimpArgs false
set_option maxRecDepth 100000
theorem sameC_refl (x : List D) : SameC x x := ⟨rfl, rfl, rfl, rfl⟩
theorem calls8 (X : T Ext) (hX : (En X).ext.get 8 = none) (h19 : (En X).ext.get 15 = some (.fn (ofG RSameC) [])) (d : D) (s : St) (hd : Good 4 GoodC d) (K : V → St → Prop) (hK : ∀ s', K (vc (.bool true)) s') : goC (En X) 8 [.c d.toC, .c d.toC] s K := by
  refine goC_body hX (kp8 X) (fn8 X) rfl (by kernel_rfl) ?_
  have hres : Tryz.f8.results.toList = [.tmp 4] := rfl
  have hl : ∀ look, len (En X) 26 look d.toC = some (els d).length := fun look => len_els (us26 X) hd.el
  have heq : (Int.ofNat (els d).length = Int.ofNat (els d).length) = True := eq_self _
  simp only [zEV, zGS, Nat.reduceShiftRight, Nat.reduceMod, Nat.reduceEqDiff, Nat.reduceAdd, ↓reduceIte, reduceCtorEq, hl, heq]
  refine go_loop (goL_inv (fun n a' s' => ∃ i, n = (els d).length - i ∧ i ≤ (els d).length ∧ Has a' 0 (vc d.toC) ∧ Has a' 1 (vc d.toC) ∧ Has a' 5 (vc (.int .i64 (Int.ofNat i)))) (n := (els d).length)
    ⟨0, rfl, Nat.zero_le _, ⟨rfl, rfl⟩, ⟨rfl, rfl⟩, ⟨rfl, rfl⟩⟩ ?_)
  rintro n a' s' ⟨i, rfl, hi, ⟨g0, k0⟩, ⟨g1, k1⟩, ⟨g5, k5⟩⟩
  by_cases hlt : i < (els d).length
  · obtain ⟨x, hx⟩ : ∃ x, (els d)[i]? = some x := ⟨_, List.getElem?_eq_getElem hlt⟩
    have hix := index_els (us26 X) (sz38 X) hd.el hx
    have hgx := hd.all x (List.mem_of_getElem? hx)
    have hsu := i64_small hlt hd.len
    have lx := ldA4 hgx
    simp only [zEV, zGS, Nat.reduceShiftRight, Nat.reduceMod, Nat.reduceEqDiff, Nat.reduceAdd, ↓reduceIte, reduceCtorEq, g0, k0, g1, k1, g5, k5, hl, lt_true hlt]
    refine go_drawS _ _ (by kernel_rfl) ?_
    simp only [zEV, zGS, Nat.reduceShiftRight, Nat.reduceMod, Nat.reduceEqDiff, Nat.reduceAdd, ↓reduceIte, reduceCtorEq, g0, k0, g1, k1, g5, k5, hix, ld38, lx, sameV_toC]
    refine gs_call _ _ _ _ _ _ (ws := [.agg (cellsD x), .agg (cellsD x)]) rfl (by simp only [zEA, Nat.reduceShiftRight, Nat.reduceMod, Nat.reduceEqDiff, Nat.reduceAdd, ↓reduceIte, reduceCtorEq, argsOf_cons, argsOf_nil]) (callR_sameC h19 hgx hgx (t := true) ⟨fun _ => sameC_refl x, fun _ => rfl⟩) ?_
    simp only [zEV, zGS, Nat.reduceShiftRight, Nat.reduceMod, Nat.reduceEqDiff, Nat.reduceAdd, ↓reduceIte, reduceCtorEq, g0, k0, g1, k1, g5, k5, hsu]
    refine ⟨_, ?_, i + 1, rfl, hlt, ⟨?_, ?_⟩, ⟨?_, ?_⟩, ⟨?_, ?_⟩⟩
    all_goals first | (simp only [zEA, Nat.reduceShiftRight, Nat.reduceMod, Nat.reduceEqDiff, Nat.reduceAdd, ↓reduceIte, reduceCtorEq, g0, k0, g1, k1, g5, k5]; done) | (simp only [zEV, zGS, Nat.reduceShiftRight, Nat.reduceMod, Nat.reduceEqDiff, Nat.reduceAdd, ↓reduceIte, reduceCtorEq, g0, k0, g1, k1, g5, k5]; rfl) | omega
  · simp only [zEV, zGS, Nat.reduceShiftRight, Nat.reduceMod, Nat.reduceEqDiff, Nat.reduceAdd, ↓reduceIte, reduceCtorEq, g0, k0, g1, k1, g5, k5, hl, lt_false hlt, hres]
    exact hK _
def RCs (ps : List PW) (v : PV) : Prop := ∃ d, ps = [.c d, .c d] ∧ Good 4 GoodC d ∧ v = .w (.c (.bool true))
end Pc
