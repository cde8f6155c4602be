import Derived.Test.YtnjfcaphpemihaaGreatDoorPcB
import Derived.Test.YtnjfcaphpemihaaGreatDoorEwG
import Derived.Test.YtnjfcaphpemihaaGreatDoorEwL
namespace Pc
open Go Go.Proofs Ev
set_option linter.unusedVariables false
set_option linter.unusedSimpArgs false
set_option maxRecDepth 100000
theorem ps61 (X : T Ext) : plainStruct (En X) 61 = some [.string, .string] := by kernel_rfl
theorem ps59 (X : T Ext) : plainStruct (En X) 59 = some [.string, .string] := by kernel_rfl
theorem toC_str (s : Str) : D.toC (.str s) = .str s := rfl
theorem take_eq {α : Type} {l r : List α} {i : Nat} (h : l.take i = r.take i) {x : α} (h1 : l[i]? = some x) (h2 : r[i]? = some x) : l.take (i + 1) = r.take (i + 1) := by
  rw [List.take_add_one, List.take_add_one, h, h1, h2]
theorem ne_of_get {α : Type} {l r : List α} {i : Nat} {x y : α} (h1 : l[i]? = some x) (h2 : r[i]? = some y) (h : x ≠ y) : l ≠ r := by
  rintro rfl
  rw [h1] at h2
  exact h (Option.some.inj h2)

theorem eq31 (X : T Ext) (hX : (En X).ext.get 23 = none) (a b : D) (s : St) (ha : Good 1 Str1 a) (hb : Good 1 Str1 b) (K : V → St → Prop) (hK : ∀ (t : Bool) s', (t = true ↔ els a = els b) → K (vc (.bool t)) s') :
    goC (En X) 23 [.c a.toC, .c b.toC] s K := by
  refine goC_body hX (kp23 X) (fn23 X) rfl (by kernel_rfl) ?_
  have hla : ∀ look, len (En X) 36 look a.toC = some (els a).length := fun look => len_els (us36 X) ha.el
  have hlb : ∀ look, len (En X) 36 look b.toC = some (els b).length := fun look => len_els (us36 X) hb.el
  by_cases hlen : (els a).length = (els b).length
  case neg =>
    have hne : (Int.ofNat (els a).length = Int.ofNat (els b).length) = False := by simpa using fun h => hlen (Int.ofNat.inj h)
    simp only [zEV, Nat.reduceShiftRight, Nat.reduceMod, Nat.reduceEqDiff, Nat.reduceAdd, ↓reduceIte, reduceCtorEq, hla, hlb, hne, Bool.not_false, true_implies, false_implies, and_true, Bool.not_true]
    exact hK false _ ⟨(fun h => by cases h), fun h => absurd (congrArg List.length h) hlen⟩
  have heq : (Int.ofNat (els a).length = Int.ofNat (els b).length) = True := by rw [hlen]; simp
  simp only [zEV, Nat.reduceShiftRight, Nat.reduceMod, Nat.reduceEqDiff, Nat.reduceAdd, ↓reduceIte, reduceCtorEq, hla, hlb, heq, Bool.not_false, true_implies, false_implies, true_and, Bool.not_true]
  refine go_loop (goL_inv (fun n a' s' => ∃ i, n = (els a).length - i ∧ i ≤ (els a).length ∧ Has a' 0 (vc a.toC) ∧ Has a' 1 (vc b.toC) ∧ Has a' 5 (vc (.int .i64 (Int.ofNat i))) ∧ (els a).take i = (els b).take i) (n := (els a).length)
    ⟨0, rfl, Nat.zero_le _, ⟨rfl, rfl⟩, ⟨rfl, rfl⟩, ⟨rfl, rfl⟩, rfl⟩ ?_)
  rintro n a' s' ⟨i, rfl, hi, ⟨g0, k0⟩, ⟨g1, k1⟩, ⟨g3, k3⟩, htk⟩
  by_cases hlt : i < (els a).length
  · obtain ⟨x, hx⟩ : ∃ x, (els a)[i]? = some x := ⟨_, List.getElem?_eq_getElem hlt⟩
    obtain ⟨y, hy⟩ : ∃ y, (els b)[i]? = some y := ⟨_, List.getElem?_eq_getElem (by omega)⟩
    have hix := index_els (us36 X) (sz9 X) ha.el hx
    have hiy := index_els (us36 X) (sz9 X) hb.el hy
    obtain ⟨lx, rfl⟩ := ha.all x (List.mem_of_getElem? hx)
    obtain ⟨ly, rfl⟩ := hb.all y (List.mem_of_getElem? hy)
    have hlt' : (Int.ofNat i < Int.ofNat (els a).length) = True := by simpa using Int.ofNat_lt.2 hlt
    have hml := ha.len
    have hmx : maxLen = 9223372036854775807 := rfl
    have hsu := nat_succ (show i < 9223372036854775807 by omega)
    simp only [zEV, Nat.reduceShiftRight, Nat.reduceMod, Nat.reduceEqDiff, Nat.reduceAdd, ↓reduceIte, reduceCtorEq, g0, k0, g1, k1, g3, k3, hla, hlt', true_implies, false_implies, and_true, true_and, Bool.not_false, Bool.not_true]
    rw [go_draw]
    rotate_left
    · kernel_rfl
    by_cases hq : lx = ly
    · subst hq
      have hbq : (lx == lx) = true := by simp
      simp only [zEV, Nat.reduceShiftRight, Nat.reduceMod, Nat.reduceEqDiff, Nat.reduceAdd, ↓reduceIte, reduceCtorEq, g0, k0, g1, k1, g3, k3, hix, hiy, ld9, ldC, toC_str, hbq, hsu, true_implies, false_implies, and_true, true_and, Bool.not_false, Bool.not_true]
      refine ⟨_, ?_, i + 1, rfl, hlt, ⟨?_, ?_⟩, ⟨?_, ?_⟩, ⟨?_, ?_⟩, take_eq htk hx hy⟩
      all_goals first | (simp only [zEA, Nat.reduceShiftRight, Nat.reduceMod, Nat.reduceEqDiff, Nat.reduceAdd, ↓reduceIte, reduceCtorEq, g0, k0, g1, k1]; done) | omega
    · have hbq : (lx == ly) = false := by simpa using hq
      simp only [zEV, Nat.reduceShiftRight, Nat.reduceMod, Nat.reduceEqDiff, Nat.reduceAdd, ↓reduceIte, reduceCtorEq, g0, k0, g1, k1, g3, k3, hix, hiy, ld9, ldC, toC_str, hbq, true_implies, false_implies, and_true, true_and, Bool.not_false, Bool.not_true]
      refine hK false _ ⟨(fun h => by cases h), fun h => absurd h (ne_of_get hx hy ?_)⟩
      intro h
      exact hq (ofL_inj (by simpa using h))
  · have hlt' : (Int.ofNat i < Int.ofNat (els a).length) = False := by simpa using fun h => hlt (Int.ofNat_lt.1 h)
    simp only [zEV, Nat.reduceShiftRight, Nat.reduceMod, Nat.reduceEqDiff, Nat.reduceAdd, ↓reduceIte, reduceCtorEq, g0, k0, g1, k1, g3, k3, hla, hlt', true_implies, false_implies, and_true, true_and, Bool.not_false, Bool.not_true]
    have : i = (els a).length := by omega
    subst this
    refine hK true _ ⟨fun _ => ?_, fun _ => rfl⟩
    rw [List.take_length, hlen, List.take_length] at htk
    exact htk

theorem eq28 (X : T Ext) (hX : (En X).ext.get 14 = none) (a b : D) (s : St) (ha : Good 2 Str2 a) (hb : Good 2 Str2 b) (K : V → St → Prop) (hK : ∀ (t : Bool) s', (t = true ↔ els a = els b) → K (vc (.bool t)) s') :
    goC (En X) 14 [.c a.toC, .c b.toC] s K := by
  refine goC_body hX (kp14 X) (fn14 X) rfl (by kernel_rfl) ?_
  have hla : ∀ look, len (En X) 25 look a.toC = some (els a).length := fun look => len_els (us25 X) ha.el
  have hlb : ∀ look, len (En X) 25 look b.toC = some (els b).length := fun look => len_els (us25 X) hb.el
  by_cases hlen : (els a).length = (els b).length
  case neg =>
    have hne : (Int.ofNat (els a).length = Int.ofNat (els b).length) = False := by simpa using fun h => hlen (Int.ofNat.inj h)
    simp only [zEV, Nat.reduceShiftRight, Nat.reduceMod, Nat.reduceEqDiff, Nat.reduceAdd, ↓reduceIte, reduceCtorEq, hla, hlb, hne, Bool.not_false, true_implies, false_implies, and_true, Bool.not_true]
    exact hK false _ ⟨(fun h => by cases h), fun h => absurd (congrArg List.length h) hlen⟩
  have heq : (Int.ofNat (els a).length = Int.ofNat (els b).length) = True := by rw [hlen]; simp
  simp only [zEV, Nat.reduceShiftRight, Nat.reduceMod, Nat.reduceEqDiff, Nat.reduceAdd, ↓reduceIte, reduceCtorEq, hla, hlb, heq, Bool.not_false, true_implies, false_implies, true_and, Bool.not_true]
  refine go_loop (goL_inv (fun n a' s' => ∃ i, n = (els a).length - i ∧ i ≤ (els a).length ∧ Has a' 0 (vc a.toC) ∧ Has a' 1 (vc b.toC) ∧ Has a' 5 (vc (.int .i64 (Int.ofNat i))) ∧ (els a).take i = (els b).take i) (n := (els a).length)
    ⟨0, rfl, Nat.zero_le _, ⟨rfl, rfl⟩, ⟨rfl, rfl⟩, ⟨rfl, rfl⟩, rfl⟩ ?_)
  rintro n a' s' ⟨i, rfl, hi, ⟨g0, k0⟩, ⟨g1, k1⟩, ⟨g3, k3⟩, htk⟩
  by_cases hlt : i < (els a).length
  · obtain ⟨x, hx⟩ : ∃ x, (els a)[i]? = some x := ⟨_, List.getElem?_eq_getElem hlt⟩
    obtain ⟨y, hy⟩ : ∃ y, (els b)[i]? = some y := ⟨_, List.getElem?_eq_getElem (by omega)⟩
    have hix := index_els (us25 X) (sz61 X) ha.el hx
    have hiy := index_els (us25 X) (sz61 X) hb.el hy
    obtain ⟨lx, rx, rfl⟩ := ha.all x (List.mem_of_getElem? hx)
    obtain ⟨ly, ry, rfl⟩ := hb.all y (List.mem_of_getElem? hy)
    have hlt' : (Int.ofNat i < Int.ofNat (els a).length) = True := by simpa using Int.ofNat_lt.2 hlt
    have hml := ha.len
    have hmx : maxLen = 9223372036854775807 := rfl
    have hsu := nat_succ (show i < 9223372036854775807 by omega)
    simp only [zEV, Nat.reduceShiftRight, Nat.reduceMod, Nat.reduceEqDiff, Nat.reduceAdd, ↓reduceIte, reduceCtorEq, g0, k0, g1, k1, g3, k3, hla, hlt', true_implies, false_implies, and_true, true_and, Bool.not_false, Bool.not_true]
    rw [go_draw]
    rotate_left
    · kernel_rfl
    by_cases hq : lx = ly ∧ rx = ry
    · obtain ⟨rfl, rfl⟩ := hq
      have hbq : (lx = lx ∧ rx = rx) = True := by simp
      simp only [zEV, Nat.reduceShiftRight, Nat.reduceMod, Nat.reduceEqDiff, Nat.reduceAdd, ↓reduceIte, reduceCtorEq, g0, k0, g1, k1, g3, k3, hix, hiy, ld61, ldA, cellsD, List.drop_zero, List.take_succ_cons, List.take_zero, List.map_cons, List.map_nil, toC_str, b_agg2_neq (ps61 X), List.length_cons, List.length_nil, Nat.le_refl, Nat.zero_add, hbq, hsu, true_implies, false_implies, and_true, true_and, Bool.not_false, Bool.not_true]
      refine ⟨_, ?_, i + 1, rfl, hlt, ⟨?_, ?_⟩, ⟨?_, ?_⟩, ⟨?_, ?_⟩, take_eq htk hx hy⟩
      all_goals first | (simp only [zEA, Nat.reduceShiftRight, Nat.reduceMod, Nat.reduceEqDiff, Nat.reduceAdd, ↓reduceIte, reduceCtorEq, g0, k0, g1, k1]; done) | omega
    · have hbq : (lx = ly ∧ rx = ry) = False := by simpa using hq
      simp only [zEV, Nat.reduceShiftRight, Nat.reduceMod, Nat.reduceEqDiff, Nat.reduceAdd, ↓reduceIte, reduceCtorEq, g0, k0, g1, k1, g3, k3, hix, hiy, ld61, ldA, cellsD, List.drop_zero, List.take_succ_cons, List.take_zero, List.map_cons, List.map_nil, toC_str, b_agg2_neq (ps61 X), List.length_cons, List.length_nil, Nat.le_refl, Nat.zero_add, hbq, true_implies, false_implies, and_true, true_and, Bool.not_false, Bool.not_true]
      refine hK false _ ⟨(fun h => by cases h), fun h => absurd h (ne_of_get hx hy ?_)⟩
      intro h
      simp only [List.cons.injEq, D.str.injEq, and_true] at h
      exact hq ⟨ofL_inj h.1, ofL_inj h.2⟩
  · have hlt' : (Int.ofNat i < Int.ofNat (els a).length) = False := by simpa using fun h => hlt (Int.ofNat_lt.1 h)
    simp only [zEV, Nat.reduceShiftRight, Nat.reduceMod, Nat.reduceEqDiff, Nat.reduceAdd, ↓reduceIte, reduceCtorEq, g0, k0, g1, k1, g3, k3, hla, hlt', true_implies, false_implies, and_true, true_and, Bool.not_false, Bool.not_true]
    have : i = (els a).length := by omega
    subst this
    refine hK true _ ⟨fun _ => ?_, fun _ => rfl⟩
    rw [List.take_length, hlen, List.take_length] at htk
    exact htk

theorem eq27 (X : T Ext) (hX : (En X).ext.get 13 = none) (a b : D) (s : St) (ha : Good 2 Str2 a) (hb : Good 2 Str2 b) (K : V → St → Prop) (hK : ∀ (t : Bool) s', (t = true ↔ els a = els b) → K (vc (.bool t)) s') :
    goC (En X) 13 [.c a.toC, .c b.toC] s K := by
  refine goC_body hX (kp13 X) (fn13 X) rfl (by kernel_rfl) ?_
  have hla : ∀ look, len (En X) 24 look a.toC = some (els a).length := fun look => len_els (us24 X) ha.el
  have hlb : ∀ look, len (En X) 24 look b.toC = some (els b).length := fun look => len_els (us24 X) hb.el
  by_cases hlen : (els a).length = (els b).length
  case neg =>
    have hne : (Int.ofNat (els a).length = Int.ofNat (els b).length) = False := by simpa using fun h => hlen (Int.ofNat.inj h)
    simp only [zEV, Nat.reduceShiftRight, Nat.reduceMod, Nat.reduceEqDiff, Nat.reduceAdd, ↓reduceIte, reduceCtorEq, hla, hlb, hne, Bool.not_false, true_implies, false_implies, and_true, Bool.not_true]
    exact hK false _ ⟨(fun h => by cases h), fun h => absurd (congrArg List.length h) hlen⟩
  have heq : (Int.ofNat (els a).length = Int.ofNat (els b).length) = True := by rw [hlen]; simp
  simp only [zEV, Nat.reduceShiftRight, Nat.reduceMod, Nat.reduceEqDiff, Nat.reduceAdd, ↓reduceIte, reduceCtorEq, hla, hlb, heq, Bool.not_false, true_implies, false_implies, true_and, Bool.not_true]
  refine go_loop (goL_inv (fun n a' s' => ∃ i, n = (els a).length - i ∧ i ≤ (els a).length ∧ Has a' 0 (vc a.toC) ∧ Has a' 1 (vc b.toC) ∧ Has a' 5 (vc (.int .i64 (Int.ofNat i))) ∧ (els a).take i = (els b).take i) (n := (els a).length)
    ⟨0, rfl, Nat.zero_le _, ⟨rfl, rfl⟩, ⟨rfl, rfl⟩, ⟨rfl, rfl⟩, rfl⟩ ?_)
  rintro n a' s' ⟨i, rfl, hi, ⟨g0, k0⟩, ⟨g1, k1⟩, ⟨g3, k3⟩, htk⟩
  by_cases hlt : i < (els a).length
  · obtain ⟨x, hx⟩ : ∃ x, (els a)[i]? = some x := ⟨_, List.getElem?_eq_getElem hlt⟩
    obtain ⟨y, hy⟩ : ∃ y, (els b)[i]? = some y := ⟨_, List.getElem?_eq_getElem (by omega)⟩
    have hix := index_els (us24 X) (sz59 X) ha.el hx
    have hiy := index_els (us24 X) (sz59 X) hb.el hy
    obtain ⟨lx, rx, rfl⟩ := ha.all x (List.mem_of_getElem? hx)
    obtain ⟨ly, ry, rfl⟩ := hb.all y (List.mem_of_getElem? hy)
    have hlt' : (Int.ofNat i < Int.ofNat (els a).length) = True := by simpa using Int.ofNat_lt.2 hlt
    have hml := ha.len
    have hmx : maxLen = 9223372036854775807 := rfl
    have hsu := nat_succ (show i < 9223372036854775807 by omega)
    simp only [zEV, Nat.reduceShiftRight, Nat.reduceMod, Nat.reduceEqDiff, Nat.reduceAdd, ↓reduceIte, reduceCtorEq, g0, k0, g1, k1, g3, k3, hla, hlt', true_implies, false_implies, and_true, true_and, Bool.not_false, Bool.not_true]
    rw [go_draw]
    rotate_left
    · kernel_rfl
    by_cases hq : lx = ly ∧ rx = ry
    · obtain ⟨rfl, rfl⟩ := hq
      have hbq : (lx = lx ∧ rx = rx) = True := by simp
      simp only [zEV, Nat.reduceShiftRight, Nat.reduceMod, Nat.reduceEqDiff, Nat.reduceAdd, ↓reduceIte, reduceCtorEq, g0, k0, g1, k1, g3, k3, hix, hiy, ld59, ldA, cellsD, List.drop_zero, List.take_succ_cons, List.take_zero, List.map_cons, List.map_nil, toC_str, b_agg2_neq (ps59 X), List.length_cons, List.length_nil, Nat.le_refl, Nat.zero_add, hbq, hsu, true_implies, false_implies, and_true, true_and, Bool.not_false, Bool.not_true]
      refine ⟨_, ?_, i + 1, rfl, hlt, ⟨?_, ?_⟩, ⟨?_, ?_⟩, ⟨?_, ?_⟩, take_eq htk hx hy⟩
      all_goals first | (simp only [zEA, Nat.reduceShiftRight, Nat.reduceMod, Nat.reduceEqDiff, Nat.reduceAdd, ↓reduceIte, reduceCtorEq, g0, k0, g1, k1]; done) | omega
    · have hbq : (lx = ly ∧ rx = ry) = False := by simpa using hq
      simp only [zEV, Nat.reduceShiftRight, Nat.reduceMod, Nat.reduceEqDiff, Nat.reduceAdd, ↓reduceIte, reduceCtorEq, g0, k0, g1, k1, g3, k3, hix, hiy, ld59, ldA, cellsD, List.drop_zero, List.take_succ_cons, List.take_zero, List.map_cons, List.map_nil, toC_str, b_agg2_neq (ps59 X), List.length_cons, List.length_nil, Nat.le_refl, Nat.zero_add, hbq, true_implies, false_implies, and_true, true_and, Bool.not_false, Bool.not_true]
      refine hK false _ ⟨(fun h => by cases h), fun h => absurd h (ne_of_get hx hy ?_)⟩
      intro h
      simp only [List.cons.injEq, D.str.injEq, and_true] at h
      exact hq ⟨ofL_inj h.1, ofL_inj h.2⟩
  · have hlt' : (Int.ofNat i < Int.ofNat (els a).length) = False := by simpa using fun h => hlt (Int.ofNat_lt.1 h)
    simp only [zEV, Nat.reduceShiftRight, Nat.reduceMod, Nat.reduceEqDiff, Nat.reduceAdd, ↓reduceIte, reduceCtorEq, g0, k0, g1, k1, g3, k3, hla, hlt', true_implies, false_implies, and_true, true_and, Bool.not_false, Bool.not_true]
    have : i = (els a).length := by omega
    subst this
    refine hK true _ ⟨fun _ => ?_, fun _ => rfl⟩
    rw [List.take_length, hlen, List.take_length] at htk
    exact htk

def REq (z : Nat) (p : List D → Prop) (ps : List PW) (v : PV) : Prop := ∃ a b, ∃ t : Bool, ps = [.c a, .c b] ∧ Good z p a ∧ Good z p b ∧ (t = true ↔ els a = els b) ∧ v = .w (.c (.bool t))
end Pc
