import Derived.Test.YtnjfcaphpemihaaGreatDoorPcQ
import Derived.Test.YtnjfcaphpemihaaGreatDoorEwK
import Derived.Test.YtnjfcaphpemihaaGreatDoorEwL
namespace Pc
open Go Go.Proofs Ev
set_option linter.unusedVariables false
set_option linter.unusedSimpArgs false
set_option maxRecDepth 100000
theorem callR_cs {E : Env} {f : Nat} {d : D} {s : St} (hx : E.ext.get f = some (.fn (ofG RCs) [])) (hd : Good 4 GoodC d) : CallR E f [.c d.toC, .c d.toC] s (.w (.c (.bool true))) s :=
  callR_fn (ps := [.c d, .c d]) (pv := .w (.c (.bool true))) hx (ofG_eq ⟨d, rfl, hd, rfl⟩ (by rintro v' ⟨_, _, _, rfl⟩; rfl)) (by simp [PW.plain, isels_plain hd.el])
theorem sub_one {i : Nat} (h0 : 0 < i) (h : i < 9223372036854775807) : wrapK .i64 (Int.ofNat i - 1) = Int.ofNat (i - 1) := by
  have : Int.ofNat i - 1 = Int.ofNat (i - 1) := by show (i : Int) - 1 = ((i - 1 : Nat) : Int); omega
  rw [this, wrap_nat (by omega)]
theorem sum_le : ∀ (os : List (List D)), (∀ o ∈ os, (callsO o).length ≤ 20) → (allD os).length ≤ 20 * os.length
  | [], _ => Nat.le_refl _
  | o :: os, h => by
    have h1 := sum_le os fun x hx => h x (by simp [hx])
    have h2 := h o (by simp)
    have : allD (o :: os) = callsO o ++ allD os := by simp [allD]
    rw [this, List.length_append, List.length_cons]; omega
theorem law3 (X : T Ext) (hX : (En X).ext.get 3 = none) {gs : List (Nat × List C)} (h4 : (En X).ext.get 4 = some (.fn (ofG RLast) [])) (h5 : (En X).ext.get 5 = some (.fn (ofG (RList lastD)) [])) (h6 : (En X).ext.get 6 = some (.const (.bool true) gs)) (h7 : (En X).ext.get 7 = some (.fn (ofG (RB pOO q17)) [])) (h8 : (En X).ext.get 8 = some (.fn (ofG RCs) [])) (h9 : (En X).ext.get 9 = some (.fn (ofG (RList lastD)) []))
    (d : D) (s : St) (hd : Good 6 GoodO d) (hg : rowsAre s.h.get gs = true) (hgn : ∀ p ∈ gs, p.1 < s.nx) (K : V → St → Prop) (hK : ∀ s', K (vc (.bool true)) s') : goC (En X) 3 [.c d.toC] s K := by
  refine goC_body hX (kp3 X) (fn3 X) rfl (by kernel_rfl) ?_
  have hres : Tryz.f3.results.toList = [.tmp 2] := rfl
  have hl : ∀ look, len (En X) 22 look d.toC = some (els d).length := fun look => len_els (us22 X) hd.el
  by_cases q1 : (20 : Int) < Int.ofNat (els d).length
  · simp only [zEV, Nat.reduceShiftRight, Nat.reduceMod, Nat.reduceEqDiff, Nat.reduceAdd, ↓reduceIte, reduceCtorEq, hl, eq_true q1, hres]
    exact hK _
  have h20 : (els d).length ≤ 20 := by have : ¬ (20 : Int) < (((els d).length : Nat) : Int) := q1; omega
  simp only [zEV, Nat.reduceShiftRight, Nat.reduceMod, Nat.reduceEqDiff, Nat.reduceAdd, ↓reduceIte, reduceCtorEq, hl, eq_false q1]
  refine go_loop (goL_inv (fun n a' s' => ∃ i, n = (els d).length - i ∧ i ≤ (els d).length ∧ Has a' 0 (vc d.toC) ∧ Has a' 3 (vc (.int .i64 (Int.ofNat i))) ∧ (∀ j o, j < i → (els d)[j]? = some o → (callsO o).length ≤ 20) ∧ s' = s) (n := (els d).length)
    ⟨0, rfl, Nat.zero_le _, ⟨rfl, rfl⟩, ⟨rfl, rfl⟩, fun j o h => by omega, rfl⟩ ?_)
  rintro n a' s' ⟨i, rfl, hi, ⟨g0, k0⟩, ⟨g3, k3⟩, hno, rfl⟩
  by_cases hlt : i < (els d).length
  · obtain ⟨o, hx⟩ : ∃ x, (els d)[i]? = some x := ⟨_, List.getElem?_eq_getElem hlt⟩
    have hix := index_els (us22 X) (sz28 X) hd.el hx
    obtain ⟨e, st, ot, fl, vr, ca, rfl, _, _, hca⟩ := hd.all o (List.mem_of_getElem? hx)
    have hlc : ∀ look, len (En X) 26 look ca.toC = some (els ca).length := fun look => len_els (us26 X) hca.el
    have hsu := i64_small hlt hd.len
    by_cases hc : (20 : Int) < Int.ofNat (els ca).length
    · simp only [zEV, Nat.reduceShiftRight, Nat.reduceMod, Nat.reduceEqDiff, Nat.reduceAdd, ↓reduceIte, reduceCtorEq, g0, k0, g3, k3, hl, lt_true hlt, hix, fD_28_5, ld26, ldC, hlc, eq_true hc, hres]
      exact hK _
    · simp only [zEV, Nat.reduceShiftRight, Nat.reduceMod, Nat.reduceEqDiff, Nat.reduceAdd, ↓reduceIte, reduceCtorEq, g0, k0, g3, k3, hl, lt_true hlt, hix, fD_28_5, ld26, ldC, hlc, eq_false hc, hsu]
      refine ⟨_, ?_, i + 1, rfl, hlt, ⟨?_, ?_⟩, ⟨?_, ?_⟩, fun j o h1 h2 => ?_⟩
      all_goals first | (simp only [zEA, Nat.reduceShiftRight, Nat.reduceMod, Nat.reduceEqDiff, Nat.reduceAdd, ↓reduceIte, reduceCtorEq, g0, k0, g3, k3]; done) | (simp only [zEV, Nat.reduceShiftRight, Nat.reduceMod, Nat.reduceEqDiff, Nat.reduceAdd, ↓reduceIte, reduceCtorEq, g0, k0, g3, k3]; rfl) | omega | skip
      rcases Nat.lt_or_ge j i with g | g
      · exact hno j o g h2
      · have : j = i := by omega
        subst this
        rw [hx] at h2; cases h2
        show (els ca).length ≤ 20
        have : ¬ (20 : Int) < (((els ca).length : Nat) : Int) := hc
        omega
  have hall : ∀ o ∈ els d, (callsO o).length ≤ 20 := fun o ho => by
    obtain ⟨j, hj⟩ := List.getElem?_of_mem ho
    have := (List.getElem?_eq_some_iff.1 hj).1
    exact hno j o (by omega) hj
  have hn : (allD (els d)).length ≤ 1000 := by have := sum_le _ hall; omega
  have hgood := good_all hd
  obtain ⟨hG, hGe⟩ := good_sl (lastD_good hgood) (Nat.le_trans (lastN_le _) hn)
  have hlast := lastO_good hd.all
  simp only [zEV, Nat.reduceShiftRight, Nat.reduceMod, Nat.reduceEqDiff, Nat.reduceAdd, ↓reduceIte, reduceCtorEq, g0, k0, g3, k3, hl, lt_false hlt]
  refine go_call _ _ _ _ _ _ (ws := [.c d.toC]) rfl (by simp only [zEV, Nat.reduceShiftRight, Nat.reduceMod, Nat.reduceEqDiff, Nat.reduceAdd, ↓reduceIte, reduceCtorEq, g0, k0, argsOf_cons, argsOf_nil]) ?_
  refine goC_last h4 hd ?_
  obtain ⟨s1, w1, r1, n1, o1⟩ := row_written s' [.int .i64 0, .int .i64 0, .str ⟨0, 0⟩, .nils, .nils, .nils] (cellsD (lastO (els d))) (by rw [goodO_len hlast]; rfl)
  have g1 : rowsAre s1.h.get gs = true := rows_congr (fun p hp => o1 _ (hgn p hp)) hg
  have hlo := goodO_len hlast
  by_cases hnil : els d = []
  · have hl0 : (els d).length = 0 := by rw [hnil]; rfl
    have e0 : (Int.ofNat (els d).length = 0) = True := eq_true (by rw [hl0]; rfl)
    have hdd : decide (els d = []) = true := by simp [hnil]
    have hem : lastD (allD (els d)) = [] := by rw [hnil]; rfl
    have hl26 : ∀ look, len (En X) 26 look (slD 4 (lastD (allD (els d)))).toC = some 0 := fun look => by rw [len_els (us26 X) hG.el, hGe, hem]; rfl
    have e00 : (Int.ofNat 0 = 0) = True := eq_true rfl
    simp only [zEV, Nat.reduceShiftRight, Nat.reduceMod, Nat.reduceEqDiff, Nat.reduceAdd, ↓reduceIte, reduceCtorEq, g0, k0, hdd, al28, st28, hlo, w1, hl, e0]
    refine go_call _ _ _ _ _ _ (ws := [.c d.toC]) rfl (by simp only [zEV, Nat.reduceShiftRight, Nat.reduceMod, Nat.reduceEqDiff, Nat.reduceAdd, ↓reduceIte, reduceCtorEq, g0, k0, argsOf_cons, argsOf_nil]) ?_
    refine goC_of (callR_list h5 hd hn) ?_
    simp only [zEV, Nat.reduceShiftRight, Nat.reduceMod, Nat.reduceEqDiff, Nat.reduceAdd, ↓reduceIte, reduceCtorEq, g0, k0, hl26, e00]
    refine go_call _ _ _ _ _ _ (ws := []) (g := 6) (cap := []) rfl rfl ?_
    refine goC_of (known_call h6 g1) ?_
    simp only [zEV, Nat.reduceShiftRight, Nat.reduceMod, Nat.reduceEqDiff, Nat.reduceAdd, ↓reduceIte, reduceCtorEq, hres]
    exact hK _
  · have hl1 : 1 ≤ (els d).length := by
      cases h : els d with
      | nil => exact absurd h hnil
      | cons _ _ => simp
    have e0 : (Int.ofNat (els d).length = 0) = False := eq_false (by show ¬ (((els d).length : Nat) : Int) = 0; omega)
    have hdd : decide (els d = []) = false := by simp [hnil]
    have hsub : wrapK .i64 (Int.ofNat (els d).length - 1) = Int.ofNat ((els d).length - 1) := sub_one (by omega) (by omega)
    have hix := index_els (us22 X) (sz28 X) hd.el (lastO_at hnil)
    have lx := ldA6 hlast
    have l4 : ldHA 6 s1.h.get s'.nx 0 = some (.agg (cellsD (lastO (els d)))) := LRow.ldA6 hlast r1
    simp only [zEV, Nat.reduceShiftRight, Nat.reduceMod, Nat.reduceEqDiff, Nat.reduceAdd, ↓reduceIte, reduceCtorEq, g0, k0, hdd, al28, st28, hlo, w1, hl, e0]
    refine go_drawD _ _ 21 22 [0, 1, 3, 3, 3, 19, 51, 123, 251, 511, 1023, 2047, 4095, 8191, 4095, 32767, 65535, 131071, 262143, 524287, 1048575, 2097151] rfl (by kernel_rfl) (by kernel_rfl) (by kernel_rfl) ?_
    simp only [zEV, Nat.reduceShiftRight, Nat.reduceMod, Nat.reduceEqDiff, Nat.reduceAdd, ↓reduceIte, reduceCtorEq, zDG, Nat.reduceOr, Nat.reduceAnd, Nat.reduceShiftLeft, Nat.reduceLT, g0, k0, ldh28, l4, hl, hsub, hix, ld28, lx, sameL_toC, V_same_toC]
    have hsame : V.same (.w (.agg (cellsD (lastO (els d))))) (.w (.agg (cellsD (lastO (els d))))) = true := sameL_toC _
    have hi64 : ∀ n : Nat, V.same (vc (.int .i64 (Int.ofNat n))) (vc (.int .i64 (Int.ofNat n))) = true := fun n => V_same_toC (.int .i64 (Int.ofNat n))
    have hSm : SameF (lastO (els d)) (lastO (els d)) ∧ eqCalls (callsO (lastO (els d))) (callsO (lastO (els d))) := ⟨⟨rfl, rfl, rfl, rfl, rfl⟩, rfl, fun i x y h1 h2 => by rw [h1] at h2; cases h2; exact sameC_refl x⟩
    refine dg_call _ _ _ _ _ _ (ws := [.agg (cellsD (lastO (els d))), .agg (cellsD (lastO (els d)))]) rfl (by simp only [zEA, Nat.reduceShiftRight, Nat.reduceMod, Nat.reduceEqDiff, Nat.reduceAdd, ↓reduceIte, reduceCtorEq, argsOf_cons, argsOf_nil]) (callR_B (ps := [.agg (lastO (els d)), .agg (lastO (els d))]) (t := true) h7 ⟨hlast, hlast⟩ (by simp [PW.plain, goodO_plain hlast]) ⟨fun _ => hSm, fun _ => rfl⟩) (by decide) (by simp only [zEV, Nat.reduceShiftRight, Nat.reduceMod, Nat.reduceEqDiff, Nat.reduceAdd, ↓reduceIte, reduceCtorEq, zDG, Nat.reduceOr, Nat.reduceAnd, Nat.reduceShiftLeft, Nat.reduceLT, g0, k0, ldh28, l4, hl, hsub, hix, ld28, lx, hsame, hi64, decide_true, eq_self, true_and, and_self]) ?_
    simp only [zEV, Nat.reduceShiftRight, Nat.reduceMod, Nat.reduceEqDiff, Nat.reduceAdd, ↓reduceIte, reduceCtorEq, zDG, Nat.reduceOr, Nat.reduceAnd, Nat.reduceShiftLeft, Nat.reduceLT, g0, k0]
    refine dg_call _ _ _ _ _ _ (ws := [.c d.toC]) rfl (by simp only [zEV, Nat.reduceShiftRight, Nat.reduceMod, Nat.reduceEqDiff, Nat.reduceAdd, ↓reduceIte, reduceCtorEq, g0, k0, argsOf_cons, argsOf_nil]) (callR_list h5 hd hn) (by decide) (by simp only [zEV, Nat.reduceShiftRight, Nat.reduceMod, Nat.reduceEqDiff, Nat.reduceAdd, ↓reduceIte, reduceCtorEq, zDG, Nat.reduceOr, Nat.reduceAnd, Nat.reduceShiftLeft, Nat.reduceLT, g0, k0, ldh28, l4, hl, hsub, hix, ld28, lx, hsame, hi64, decide_true, eq_self, true_and, and_self]) ?_
    simp only [zEV, Nat.reduceShiftRight, Nat.reduceMod, Nat.reduceEqDiff, Nat.reduceAdd, ↓reduceIte, reduceCtorEq, zDG, Nat.reduceOr, Nat.reduceAnd, Nat.reduceShiftLeft, Nat.reduceLT, g0, k0]
    refine dg_call _ _ _ _ _ _ (ws := [.c d.toC]) rfl (by simp only [zEV, Nat.reduceShiftRight, Nat.reduceMod, Nat.reduceEqDiff, Nat.reduceAdd, ↓reduceIte, reduceCtorEq, g0, k0, argsOf_cons, argsOf_nil]) (callR_list h9 hd hn) (by decide) (by simp only [zEV, Nat.reduceShiftRight, Nat.reduceMod, Nat.reduceEqDiff, Nat.reduceAdd, ↓reduceIte, reduceCtorEq, zDG, Nat.reduceOr, Nat.reduceAnd, Nat.reduceShiftLeft, Nat.reduceLT, g0, k0, ldh28, l4, hl, hsub, hix, ld28, lx, hsame, hi64, decide_true, eq_self, true_and, and_self]) ?_
    simp only [zEV, Nat.reduceShiftRight, Nat.reduceMod, Nat.reduceEqDiff, Nat.reduceAdd, ↓reduceIte, reduceCtorEq, zDG, Nat.reduceOr, Nat.reduceAnd, Nat.reduceShiftLeft, Nat.reduceLT, g0, k0]
    refine dg_call _ _ _ _ _ _ (ws := [.c (slD 4 (lastD (allD (els d)))).toC, .c (slD 4 (lastD (allD (els d)))).toC]) rfl (by simp only [zEV, Nat.reduceShiftRight, Nat.reduceMod, Nat.reduceEqDiff, Nat.reduceAdd, ↓reduceIte, reduceCtorEq, g0, k0, argsOf_cons, argsOf_nil]) (callR_cs h8 hG) (by decide) (by simp only [zEV, Nat.reduceShiftRight, Nat.reduceMod, Nat.reduceEqDiff, Nat.reduceAdd, ↓reduceIte, reduceCtorEq, zDG, Nat.reduceOr, Nat.reduceAnd, Nat.reduceShiftLeft, Nat.reduceLT, g0, k0, ldh28, l4, hl, hsub, hix, ld28, lx, hsame, hi64, decide_true, eq_self, true_and, and_self]) ?_
    simp only [zEV, Nat.reduceShiftRight, Nat.reduceMod, Nat.reduceEqDiff, Nat.reduceAdd, ↓reduceIte, reduceCtorEq, zDG, Nat.reduceOr, Nat.reduceAnd, Nat.reduceShiftLeft, Nat.reduceLT, g0, k0]
    refine dg_call _ _ _ _ _ _ (ws := []) (g := 6) (cap := []) rfl (by simp only [zEA, Nat.reduceShiftRight, Nat.reduceMod, Nat.reduceEqDiff, Nat.reduceAdd, ↓reduceIte, reduceCtorEq, argsOf_cons, argsOf_nil]) (known_call h6 (s := ⟨s1.h, s1.nx + 22⟩) g1) (by decide) (by simp only [zEV, Nat.reduceShiftRight, Nat.reduceMod, Nat.reduceEqDiff, Nat.reduceAdd, ↓reduceIte, reduceCtorEq, zDG, Nat.reduceOr, Nat.reduceAnd, Nat.reduceShiftLeft, Nat.reduceLT, g0, k0, ldh28, l4, hl, hsub, hix, ld28, lx, hsame, hi64, decide_true, eq_self, true_and, and_self]) ?_
    simp only [zEV, Nat.reduceShiftRight, Nat.reduceMod, Nat.reduceEqDiff, Nat.reduceAdd, ↓reduceIte, reduceCtorEq, zDG, Nat.reduceOr, Nat.reduceAnd, Nat.reduceShiftLeft, Nat.reduceLT, g0, k0, hres]
    exact hK _
end Pc
