import Derived.Test.YtnjfcaphpemihaaGreatDoorPcL
import Derived.Test.YtnjfcaphpemihaaGreatDoorEwL
namespace Pc
open Go Go.Proofs Ev
set_option linter.unusedVariables false
set_option linter.unusedSimpArgs false
set_option maxRecDepth 100000
theorem ldA4 {x : List D} (h : GoodC x) : ldA 4 x 0 = some (.agg (cellsD x)) := by
  obtain ⟨n, av, vs, inp, rfl, _⟩ := h
  rfl
theorem refSame17 (X : T Ext) (hX : (En X).ext.get 7 = none) (h27 : (En X).ext.get 13 = some (.fn (ofG (REq 2 Str2)) [])) (h28 : (En X).ext.get 14 = some (.fn (ofG (REq 2 Str2)) [])) (h19 : (En X).ext.get 15 = some (.fn (ofG RSameC) [])) (x y : List D) (s : St) (hx : GoodO x) (hy : GoodO y) (K : V → St → Prop)
    (hK : ∀ (t : Bool) s', (t = true ↔ SameF x y ∧ eqCalls (callsO x) (callsO y)) → K (vc (.bool t)) s') : goC (En X) 7 [.agg (cellsD x), .agg (cellsD y)] s K := by
  obtain ⟨e, st, ot, fl, vr, ca, rfl, hfl, hvr, hca⟩ := hx
  obtain ⟨e', st', ot', fl', vr', ca', rfl, hfl', hvr', hca'⟩ := hy
  refine goC_body hX (kp7 X) (fn7 X) rfl (by kernel_rfl) ?_
  have hc1 : callsO [.int .i64 e, .int .i64 st, .str (Str.ofL ot), fl, vr, ca] = els ca := rfl
  have hc2 : callsO [.int .i64 e', .int .i64 st', .str (Str.ofL ot'), fl', vr', ca'] = els ca' := rfl
  rw [hc1, hc2] at hK
  simp only [zEV, zGS, Nat.reduceShiftRight, Nat.reduceMod, Nat.reduceEqDiff, Nat.reduceAdd, ↓reduceIte, reduceCtorEq, cellsD_cons, cellsD_nil, toC_int, toC_strD, St.new_nx]
  obtain ⟨r1, r2⟩ := rows2 s [.int .i64 e, .int .i64 st, .str (Str.ofL ot), fl.toC, vr.toC, ca.toC] [.int .i64 e', .int .i64 st', .str (Str.ofL ot'), fl'.toC, vr'.toC, ca'.toC]
  generalize ((s.new (.row (mkRow [.int .i64 e, .int .i64 st, .str (Str.ofL ot), fl.toC, vr.toC, ca.toC]))).new (.row (mkRow [.int .i64 e', .int .i64 st', .str (Str.ofL ot'), fl'.toC, vr'.toC, ca'.toC]))) = s2 at r1 r2 ⊢
  have a0 := r1.ldC (o := 0) rfl
  have a1 := r1.ldC (o := 1) rfl
  have a2 := r1.ldC (o := 2) rfl
  have a3 := r1.ldC (o := 3) rfl
  have a4 := r1.ldC (o := 4) rfl
  have a5 := r1.ldC (o := 5) rfl
  have b0 := r2.ldC (o := 0) rfl
  have b1 := r2.ldC (o := 1) rfl
  have b2 := r2.ldC (o := 2) rfl
  have b3 := r2.ldC (o := 3) rfl
  have b4 := r2.ldC (o := 4) rfl
  have b5 := r2.ldC (o := 5) rfl
  by_cases h0 : e = e'
  case neg =>
    simp only [zEV, zGS, Nat.reduceShiftRight, Nat.reduceMod, Nat.reduceEqDiff, Nat.reduceAdd, ↓reduceIte, reduceCtorEq, fA_28_0, fA_28_1, fA_28_2, fA_28_3, fA_28_4, fA_28_5, ldh23, ldh3, ldh9, ldh24, ldh25, ldh26, a0, a1, a2, a3, a4, a5, b0, b1, b2, b3, b4, b5, eq_false h0]
    exact hK false _ ⟨(fun h => by cases h), fun h => absurd (by simpa using h.1.1) h0⟩
  by_cases h1 : st = st'
  case neg =>
    simp only [zEV, zGS, Nat.reduceShiftRight, Nat.reduceMod, Nat.reduceEqDiff, Nat.reduceAdd, ↓reduceIte, reduceCtorEq, fA_28_0, fA_28_1, fA_28_2, fA_28_3, fA_28_4, fA_28_5, ldh23, ldh3, ldh9, ldh24, ldh25, ldh26, a0, a1, a2, a3, a4, a5, b0, b1, b2, b3, b4, b5, eq_true h0, eq_false h1]
    exact hK false _ ⟨(fun h => by cases h), fun h => absurd (by simpa using h.1.2.1) h1⟩
  by_cases h2 : ot = ot'
  case neg =>
    have h2' : (ot == ot') = false := by simpa using h2
    simp only [zEV, zGS, Nat.reduceShiftRight, Nat.reduceMod, Nat.reduceEqDiff, Nat.reduceAdd, ↓reduceIte, reduceCtorEq, fA_28_0, fA_28_1, fA_28_2, fA_28_3, fA_28_4, fA_28_5, ldh23, ldh3, ldh9, ldh24, ldh25, ldh26, a0, a1, a2, a3, a4, a5, b0, b1, b2, b3, b4, b5, eq_true h0, eq_true h1, h2']
    exact hK false _ ⟨(fun h => by cases h), fun h => absurd (ofL_inj (by simpa using h.1.2.2.1)) h2⟩
  have h2' : (ot == ot') = true := by simpa using h2
  simp only [zEV, zGS, Nat.reduceShiftRight, Nat.reduceMod, Nat.reduceEqDiff, Nat.reduceAdd, ↓reduceIte, reduceCtorEq, fA_28_0, fA_28_1, fA_28_2, fA_28_3, fA_28_4, fA_28_5, ldh23, ldh3, ldh9, ldh24, ldh25, ldh26, a0, a1, a2, a3, a4, a5, b0, b1, b2, b3, b4, b5, eq_true h0, eq_true h1, h2']
  refine go_call _ _ _ _ _ _ (ws := [.c fl.toC, .c fl'.toC]) rfl (by simp only [zEA, Nat.reduceShiftRight, Nat.reduceMod, Nat.reduceEqDiff, Nat.reduceAdd, ↓reduceIte, reduceCtorEq, argsOf_cons, argsOf_nil]) ?_
  refine goC_eq h27 hfl hfl' fun t1 e1 => ?_
  cases t1 with
  | false =>
    simp only [zEV, zGS, Nat.reduceShiftRight, Nat.reduceMod, Nat.reduceEqDiff, Nat.reduceAdd, ↓reduceIte, reduceCtorEq, fA_28_0, fA_28_1, fA_28_2, fA_28_3, fA_28_4, fA_28_5, ldh23, ldh3, ldh9, ldh24, ldh25, ldh26, a0, a1, a2, a3, a4, a5, b0, b1, b2, b3, b4, b5, eq_true h0, eq_true h1, h2']
    exact hK false _ ⟨(fun h => by cases h), fun h => absurd (e1.2 h.1.2.2.2.1) (by simp)⟩
  | true =>
    simp only [zEV, zGS, Nat.reduceShiftRight, Nat.reduceMod, Nat.reduceEqDiff, Nat.reduceAdd, ↓reduceIte, reduceCtorEq, fA_28_0, fA_28_1, fA_28_2, fA_28_3, fA_28_4, fA_28_5, ldh23, ldh3, ldh9, ldh24, ldh25, ldh26, a0, a1, a2, a3, a4, a5, b0, b1, b2, b3, b4, b5, eq_true h0, eq_true h1, h2']
    refine go_call _ _ _ _ _ _ (ws := [.c vr.toC, .c vr'.toC]) rfl (by simp only [zEA, Nat.reduceShiftRight, Nat.reduceMod, Nat.reduceEqDiff, Nat.reduceAdd, ↓reduceIte, reduceCtorEq, argsOf_cons, argsOf_nil]) ?_
    refine goC_eq h28 hvr hvr' fun t2 e2 => ?_
    cases t2 with
    | false =>
      simp only [zEV, zGS, Nat.reduceShiftRight, Nat.reduceMod, Nat.reduceEqDiff, Nat.reduceAdd, ↓reduceIte, reduceCtorEq, fA_28_0, fA_28_1, fA_28_2, fA_28_3, fA_28_4, fA_28_5, ldh23, ldh3, ldh9, ldh24, ldh25, ldh26, a0, a1, a2, a3, a4, a5, b0, b1, b2, b3, b4, b5, eq_true h0, eq_true h1, h2']
      exact hK false _ ⟨(fun h => by cases h), fun h => absurd (e2.2 h.1.2.2.2.2) (by simp)⟩
    | true =>
      have hla : ∀ look, len (En X) 26 look ca.toC = some (els ca).length := fun look => len_els (us26 X) hca.el
      have hlb : ∀ look, len (En X) 26 look ca'.toC = some (els ca').length := fun look => len_els (us26 X) hca'.el
      by_cases hlen : (els ca).length = (els ca').length
      case neg =>
        have hne : (Int.ofNat (els ca).length = Int.ofNat (els ca').length) = False := by simpa using fun h => hlen (Int.ofNat.inj h)
        simp only [zEV, zGS, Nat.reduceShiftRight, Nat.reduceMod, Nat.reduceEqDiff, Nat.reduceAdd, ↓reduceIte, reduceCtorEq, fA_28_0, fA_28_1, fA_28_2, fA_28_3, fA_28_4, fA_28_5, ldh23, ldh3, ldh9, ldh24, ldh25, ldh26, a0, a1, a2, a3, a4, a5, b0, b1, b2, b3, b4, b5, eq_true h0, eq_true h1, h2', hla, hlb, hne]
        exact hK false _ ⟨(fun h => by cases h), fun h => absurd h.2.1 hlen⟩
      have heq : (Int.ofNat (els ca).length = Int.ofNat (els ca').length) = True := by rw [hlen]; simp
      simp only [zEV, zGS, Nat.reduceShiftRight, Nat.reduceMod, Nat.reduceEqDiff, Nat.reduceAdd, ↓reduceIte, reduceCtorEq, fA_28_0, fA_28_1, fA_28_2, fA_28_3, fA_28_4, fA_28_5, ldh23, ldh3, ldh9, ldh24, ldh25, ldh26, a0, a1, a2, a3, a4, a5, b0, b1, b2, b3, b4, b5, eq_true h0, eq_true h1, h2', hla, hlb, heq]
      have hsf : SameF [.int .i64 e, .int .i64 st, .str (Str.ofL ot), fl, vr, ca] [.int .i64 e', .int .i64 st', .str (Str.ofL ot'), fl', vr', ca'] := by
        subst h0 h1 h2
        exact ⟨rfl, rfl, rfl, e1.1 rfl, e2.1 rfl⟩
      generalize hp : s.nx = p at *
      refine go_loop (goL_inv (fun n a' s' => ∃ i, n = (els ca).length - i ∧ i ≤ (els ca).length ∧ Has a' 2 (vc (.ptr p 0)) ∧ Has a' 3 (vc (.ptr (p + 1) 0)) ∧ Has a' 5 (vc (.int .i64 (Int.ofNat i))) ∧ LRow s' p [.int .i64 e, .int .i64 st, .str (Str.ofL ot), fl.toC, vr.toC, ca.toC] ∧ LRow s' (p + 1) [.int .i64 e', .int .i64 st', .str (Str.ofL ot'), fl'.toC, vr'.toC, ca'.toC] ∧ ∀ j x y, j < i → (els ca)[j]? = some x → (els ca')[j]? = some y → SameC x y) (n := (els ca).length)
        ⟨0, rfl, Nat.zero_le _, ⟨rfl, rfl⟩, ⟨rfl, rfl⟩, ⟨rfl, rfl⟩, r1, r2, fun j x y h => by omega⟩ ?_)
      clear a0 a1 a2 a3 a4 a5 b0 b1 b2 b3 b4 b5 r1 r2
      rintro n a' s' ⟨i, rfl, hi, ⟨g2, k2⟩, ⟨g3, k3⟩, ⟨g5, k5⟩, r1, r2, hok⟩
      have a5 := r1.ldC (o := 5) rfl
      have b5 := r2.ldC (o := 5) rfl
      by_cases hlt : i < (els ca).length
      · obtain ⟨x, hx⟩ : ∃ x, (els ca)[i]? = some x := ⟨_, List.getElem?_eq_getElem hlt⟩
        obtain ⟨y, hy⟩ : ∃ y, (els ca')[i]? = some y := ⟨_, List.getElem?_eq_getElem (by omega)⟩
        have hix := index_els (us26 X) (sz38 X) hca.el hx
        have hiy := index_els (us26 X) (sz38 X) hca'.el hy
        have hgx := hca.all x (List.mem_of_getElem? hx)
        have hgy := hca'.all y (List.mem_of_getElem? hy)
        have hsu := i64_small hlt hca.len
        have lx := ldA4 hgx
        have ly := ldA4 hgy
        simp only [zEV, zGS, Nat.reduceShiftRight, Nat.reduceMod, Nat.reduceEqDiff, Nat.reduceAdd, ↓reduceIte, reduceCtorEq, fA_28_5, ldh26, g2, k2, g3, k3, g5, k5, a5, b5, hla, lt_true hlt]
        refine go_drawS _ _ (by kernel_rfl) ?_
        obtain ⟨t, ht⟩ : ∃ t : Bool, t = true ↔ SameC x y := by
          by_cases h : SameC x y
          · exact ⟨true, by simp [h]⟩
          · exact ⟨false, by simp [h]⟩
        simp only [zEV, zGS, Nat.reduceShiftRight, Nat.reduceMod, Nat.reduceEqDiff, Nat.reduceAdd, ↓reduceIte, reduceCtorEq, fA_28_5, ldh26, g2, k2, g3, k3, g5, k5, a5, b5, hla, hlb, hix, hiy, ld38, lx, ly, sameV_toC]
        refine gs_call _ _ _ _ _ _ (ws := [.agg (cellsD x), .agg (cellsD y)]) rfl (by simp only [zEA, Nat.reduceShiftRight, Nat.reduceMod, Nat.reduceEqDiff, Nat.reduceAdd, ↓reduceIte, reduceCtorEq, argsOf_cons, argsOf_nil]) (callR_sameC h19 hgx hgy ht) ?_
        cases t with
        | true =>
          simp only [zEV, zGS, Nat.reduceShiftRight, Nat.reduceMod, Nat.reduceEqDiff, Nat.reduceAdd, ↓reduceIte, reduceCtorEq, g2, k2, g3, k3, g5, k5, hsu]
          refine ⟨_, ?_, i + 1, rfl, hlt, ⟨?_, ?_⟩, ⟨?_, ?_⟩, ⟨?_, ?_⟩, r1.keep rfl, r2.keep rfl, fun j x y h1 h2 h3 => ?_⟩
          all_goals first | (simp only [zEA, Nat.reduceShiftRight, Nat.reduceMod, Nat.reduceEqDiff, Nat.reduceAdd, ↓reduceIte, reduceCtorEq, g2, k2, g3, k3]; done) | omega | skip
          rcases Nat.lt_or_ge j i with g | g
          · exact hok j x y g h2 h3
          · have : j = i := by omega
            subst this
            rw [hx] at h2; rw [hy] at h3; cases h2; cases h3
            exact ht.1 rfl
        | false =>
          simp only [zEV, zGS, Nat.reduceShiftRight, Nat.reduceMod, Nat.reduceEqDiff, Nat.reduceAdd, ↓reduceIte, reduceCtorEq, g2, k2, g3, k3, g5, k5, hsu]
          exact hK false _ ⟨(fun h => by cases h), fun h => by have := ht.2 (h.2.2 i _ _ hx hy); cases this⟩
      · simp only [zEV, zGS, Nat.reduceShiftRight, Nat.reduceMod, Nat.reduceEqDiff, Nat.reduceAdd, ↓reduceIte, reduceCtorEq, fA_28_5, ldh26, g2, k2, g3, k3, g5, k5, a5, b5, hla, lt_false hlt]
        have : i = (els ca).length := by omega
        subst this
        exact hK true _ ⟨fun _ => ⟨hsf, hlen, fun j x y h1 h2 => hok j x y (List.getElem?_eq_some_iff.1 h1).1 h1 h2⟩, fun _ => rfl⟩
end Pc
