import Derived.Test.YtnjfcaphpemihaaGreatDoorPcD
import Derived.Test.YtnjfcaphpemihaaGreatDoorEwL
namespace Pc
open Go Go.Proofs Ev
set_option linter.unusedVariables false
set_option linter.unusedSimpArgs false
set_option maxRecDepth 100000
def num (x : List D) : D := x.getD 0 .nils
theorem i64_small {i : Nat} {n : Nat} (h : i < n) (hn : n ≤ maxLen) : wrapK .i64 (Int.ofNat i + 1) = Int.ofNat (i + 1) := nat_succ (by have : maxLen = 9223372036854775807 := rfl; omega)
theorem lt_true {i n : Nat} (h : i < n) : (Int.ofNat i < Int.ofNat n) = True := by simpa using Int.ofNat_lt.2 h
theorem lt_false {i n : Nat} (h : ¬ i < n) : (Int.ofNat i < Int.ofNat n) = False := by simpa using fun g => h (Int.ofNat_lt.1 g)
theorem lt_trueL (i : Nat) (m : Int) (h : Int.ofNat i < m) : (Int.ofNat i < m) = True := eq_true h
def againD (l : List (List D)) (i : Nat) : Prop := ∃ j x y, i < j ∧ l[j]? = some x ∧ l[i]? = some y ∧ num x = num y
theorem again22 (X : T Ext) (hX : (En X).ext.get 17 = none) (d : D) (s : St) (hd : Good 4 GoodC d) (i0 : Nat) (h0 : i0 < (els d).length) (K : V → St → Prop) (hK : ∀ (t : Bool) s', (t = true ↔ againD (els d) i0) → K (vc (.bool t)) s') :
    goC (En X) 17 [.c d.toC, .c (.int .i64 (Int.ofNat i0))] s K := by
  refine goC_body hX (kp17 X) (fn17 X) rfl (by kernel_rfl) ?_
  have hl : ∀ look, len (En X) 26 look d.toC = some (els d).length := fun look => len_els (us26 X) hd.el
  obtain ⟨y, hy⟩ : ∃ y, (els d)[i0]? = some y := ⟨_, List.getElem?_eq_getElem h0⟩
  have hiy := index_els (us26 X) (sz38 X) hd.el hy
  have hsu0 := i64_small h0 hd.len
  simp only [zEV, Nat.reduceShiftRight, Nat.reduceMod, Nat.reduceEqDiff, Nat.reduceAdd, ↓reduceIte, reduceCtorEq, hsu0]
  refine go_loop (goL_inv (fun n a' s' => ∃ i, n = (els d).length - i ∧ i ≤ (els d).length ∧ i0 < i ∧ Has a' 0 (vc d.toC) ∧ Has a' 1 (vc (.int .i64 (Int.ofNat i0))) ∧ Has a' 5 (vc (.int .i64 (Int.ofNat i))) ∧ ∀ j x, i0 < j → j < i → (els d)[j]? = some x → num x ≠ num y) (n := (els d).length - (i0 + 1))
    ⟨i0 + 1, rfl, h0, Nat.lt_succ_self _, ⟨rfl, rfl⟩, ⟨rfl, rfl⟩, ⟨rfl, rfl⟩, fun j x h1 h2 => by omega⟩ ?_)
  rintro n a' s' ⟨i, rfl, hi, hi0, ⟨g0, k0⟩, ⟨g1, k1⟩, ⟨g3, k3⟩, hno⟩
  obtain ⟨ny, avy, vsy, iny, rfl, _, _⟩ := hd.all y (List.mem_of_getElem? hy)
  by_cases hlt : i < (els d).length
  · obtain ⟨x, hx⟩ : ∃ x, (els d)[i]? = some x := ⟨_, List.getElem?_eq_getElem hlt⟩
    have hix := index_els (us26 X) (sz38 X) hd.el hx
    obtain ⟨nx, avx, vsx, inx, rfl, _, _⟩ := hd.all x (List.mem_of_getElem? hx)
    have hsu := i64_small hlt hd.len
    simp only [zEV, Nat.reduceShiftRight, Nat.reduceMod, Nat.reduceEqDiff, Nat.reduceAdd, ↓reduceIte, reduceCtorEq, g0, k0, g1, k1, g3, k3, hl, lt_true hlt]
    rw [go_draw]
    rotate_left
    · kernel_rfl
    by_cases hq : nx = ny
    · subst hq
      simp only [zEV, Nat.reduceShiftRight, Nat.reduceMod, Nat.reduceEqDiff, Nat.reduceAdd, ↓reduceIte, reduceCtorEq, g0, k0, g1, k1, g3, k3, hix, hiy, fD_38_0, ld3, ldC, toC_int, eq_self]
      exact hK true _ ⟨fun _ => ⟨i, _, _, hi0, hx, hy, rfl⟩, fun _ => rfl⟩
    · have hq' : (nx = ny) = False := eq_false hq
      simp only [zEV, Nat.reduceShiftRight, Nat.reduceMod, Nat.reduceEqDiff, Nat.reduceAdd, ↓reduceIte, reduceCtorEq, g0, k0, g1, k1, g3, k3, hix, hiy, fD_38_0, ld3, ldC, toC_int, hq', hsu]
      refine ⟨_, ?_, i + 1, rfl, hlt, by omega, ⟨?_, ?_⟩, ⟨?_, ?_⟩, ⟨?_, ?_⟩, ?_⟩
      all_goals first | (simp only [zEA, Nat.reduceShiftRight, Nat.reduceMod, Nat.reduceEqDiff, Nat.reduceAdd, ↓reduceIte, reduceCtorEq, g0, k0, g1, k1]; done) | omega | skip
      intro j x h1 h2 h3
      rcases Nat.lt_or_ge j i with g | g
      · exact hno j x h1 g h3
      · have : j = i := by omega
        subst this
        rw [hx] at h3; cases h3
        simpa [num] using hq
  · simp only [zEV, Nat.reduceShiftRight, Nat.reduceMod, Nat.reduceEqDiff, Nat.reduceAdd, ↓reduceIte, reduceCtorEq, g0, k0, g1, k1, g3, k3, hl, lt_false hlt]
    refine hK false _ ⟨(fun h => by cases h), ?_⟩
    rintro ⟨j, x, y', h1, h2, h3, h4⟩
    rw [hy] at h3; cases h3
    have := (List.getElem?_eq_some_iff.1 h2).1
    exact absurd h4 (hno j x h1 (by omega) h2)

def small (os : List (List D)) : Prop := os.length ≤ 20 ∧ ∀ o ∈ os, (callsO o).length ≤ 20
end Pc
