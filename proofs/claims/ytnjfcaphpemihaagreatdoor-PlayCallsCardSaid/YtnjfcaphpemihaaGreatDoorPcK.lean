import Derived.Test.YtnjfcaphpemihaaGreatDoorPcJ
import Derived.Test.YtnjfcaphpemihaaGreatDoorEwL
namespace Pc
open Go Go.Proofs Ev
set_option linter.unusedVariables false
set_option linter.unusedSimpArgs false
set_option maxRecDepth 100000
theorem app_one2 {E : Env} {t z : Nat} {j : TI} {s : St} {c : C} {ls : List (List D)} {x : List D} (hj : elemTI E t = some j) (hs : j.size = z) (h : SlAt s c z ls) (hx : x.length = z) (hz : 1 ≤ z)
    (hb : (ls.length + 1) * j.bytes ≤ maxBytes) : ∃ c' s', append E t c (.sl s.nx 0 1 (some 1) z) (s.new (.row (mkRow (cellsD x)))) = .ok c' s' ∧ SlAt s' c' z (ls ++ [x]) ∧ Keeps (s.new (.row (mkRow (cellsD x)))) s' c ∧ ∀ b o n cap z', c' = .sl b o n cap z' → s.nx ≤ b := by
  subst hs
  have h' := SlAt.new h (.row (mkRow (cellsD x)))
  obtain ⟨c', s', h1, h2, h3, h4⟩ := app_cells (l := [x]) hj h' (by simpa using hx) hz (newCells_one (q := T.ofL (cellsD x)) (lf := true) (sh := 0) (anc := []) (b := s.nx) (by
    rw [St.new_h]
    show (if s.nx = s.nx then _ else _) = _
    rw [if_pos rfl, mkRow_eq]
    have : (cellsD x).length = j.size := by simp [cellsD, hx]
    rw [this]) (by
    have : (cellsD x).length = j.size := by simp [cellsD, hx]
    rw [← this]; exact T.getL_ofL _) (some 1)) (by simpa using hb)
  refine ⟨c', s', h1, h2, h3, fun b o n cap z' hc => ?_⟩
  rcases h4 b o n cap z' hc with ⟨_, e⟩ | e
  · cases e
  · rw [St.new_nx] at e; omega
theorem playCalls21 (X : T Ext) (hX : (En X).ext.get 5 = none) (h32 : (En X).ext.get 10 = none) (h35 : (En X).ext.get 18 = none) (h33 : (En X).ext.get 11 = none) (d : D) (s : St) (hd : Good 6 GoodO d) (hn : (allD (els d)).length ≤ 1000) (K : V → St → Prop)
    (hK : ∀ c s', SlAt s' c 4 (lastD (allD (els d))) → K (vc c) s') : goC (En X) 5 [.c d.toC] s K := by
  refine goC_body hX (kp5 X) (fn5 X) rfl (by kernel_rfl) ?_
  have hl : ∀ look, len (En X) 22 look d.toC = some (els d).length := fun look => len_els (us22 X) hd.el
  simp only [zEV, Nat.reduceShiftRight, Nat.reduceMod, Nat.reduceEqDiff, Nat.reduceAdd, ↓reduceIte, reduceCtorEq, hl]
  refine go_loop (goL_inv (fun n a s' => ∃ i c, n = (els d).length - i ∧ i ≤ (els d).length ∧ Has a 9 (vc d.toC) ∧ Has a 3 (vc c) ∧ Has a 4 (vc .nils) ∧ Has a 10 (vc (.int .i64 (Int.ofNat (els d).length))) ∧ Has a 11 (vc (.int .i64 (Int.ofNat i))) ∧ SlAt s' c 4 (allD ((els d).take i))) (n := (els d).length)
    ⟨0, .nils, rfl, Nat.zero_le _, ⟨rfl, rfl⟩, ⟨rfl, rfl⟩, ⟨rfl, rfl⟩, ⟨rfl, rfl⟩, ⟨rfl, rfl⟩, SlAt.nil s 4⟩ ?_)
  rintro n a s' ⟨i, c, rfl, hi, ⟨g0, k0⟩, ⟨g3, k3⟩, ⟨g4, k4⟩, ⟨g7, k7⟩, ⟨g8, k8⟩, hsl⟩
  by_cases hlt : i < (els d).length
  · obtain ⟨o, hoi⟩ : ∃ o, (els d)[i]? = some o := ⟨_, List.getElem?_eq_getElem hlt⟩
    have hix := index_els (us22 X) (sz28 X) hd.el hoi
    obtain ⟨e, st, ot, fl, vr, ca, rfl, _, _, hca⟩ := hd.all o (List.mem_of_getElem? hoi)
    have hle := allD_le (els d) (i + 1)
    rw [allD_take (els d) hoi] at hle
    obtain ⟨s1, w1, r1, n1, o1⟩ := row_written s' [.int .i64 0, .int .i64 0, .str ⟨0, 0⟩, .nils, .nils, .nils] [.int .i64 e, .int .i64 st, .str (Str.ofL ot), fl.toC, vr.toC, ca.toC] rfl
    have l1 := r1.ldC (o := 5) rfl
    have hsl1 : SlAt s1 c 4 (allD ((els d).take i)) := SlAt.other hsl (by omega) (fun b hb _ _ _ _ _ => o1 b hb)
    obtain ⟨c', s2, happ, hsl2, _⟩ := app_els (el26 X) ti38.1 hsl1 hca.el (by decide) (by
      rw [ti38.2]
      have : (els ca).length = (callsO [.int .i64 e, .int .i64 st, .str (Str.ofL ot), fl, vr, ca]).length := rfl
      rw [List.length_append, ← this] at hle
      have : maxBytes = 140737488355328 := rfl
      omega)
    simp only [zEV, Nat.reduceShiftRight, Nat.reduceMod, Nat.reduceEqDiff, Nat.reduceAdd, ↓reduceIte, reduceCtorEq, g0, k0, g3, k3, g4, k4, g7, k7, g8, k8, lt_true hlt, hix, ld28, ldA, cellsD_cons, cellsD_nil, toC_int, toC_strD, List.drop_zero, List.take_succ_cons, List.take_zero, List.length_cons, List.length_nil, Nat.zero_add, Nat.le_refl, al28, st28, w1, fA_28_5, ldh26, l1, us26, happ, i64_small hlt hd.len]
    refine ⟨_, ?_, i + 1, c', rfl, hlt, ⟨?_, ?_⟩, ⟨?_, ?_⟩, ⟨?_, ?_⟩, ⟨?_, ?_⟩, ⟨?_, ?_⟩, ?_⟩
    all_goals first | (simp only [zEA, Nat.reduceShiftRight, Nat.reduceMod, Nat.reduceEqDiff, Nat.reduceAdd, ↓reduceIte, reduceCtorEq, g0, k0, g4, k4, g7, k7]; done) | skip
    · omega
    · rw [allD_take (els d) hoi]; exact hsl2
  have : i = (els d).length := by omega
  subst this
  rw [List.take_length] at hsl
  have hgood := good_all hd
  generalize allD (els d) = M at *
  have hlm : ∀ look, len (En X) 26 look c = some M.length := fun look => slat_len hsl (us26 X)
  simp only [zEV, Nat.reduceShiftRight, Nat.reduceMod, Nat.reduceEqDiff, Nat.reduceAdd, ↓reduceIte, reduceCtorEq, g0, k0, g3, k3, g4, k4, g7, k7, g8, k8, lt_false hlt, hlm]
  clear hlt
  refine go_loop (goL_inv (fun n a s2 => ∃ i c2, n = M.length - i ∧ i ≤ M.length ∧ Has a 3 (vc c) ∧ Has a 20 (vc c) ∧ Has a 4 (vc c2) ∧ Has a 21 (vc (.int .i64 (Int.ofNat M.length))) ∧ Has a 22 (vc (.int .i64 (Int.ofNat i))) ∧ s'.nx ≤ s2.nx ∧ SlAt s2 c 4 M ∧ SlAt s2 c2 4 (lastP M i) ∧
      (∀ b o n cap z, c = .sl b o n cap z → b < s'.nx) ∧ (∀ b o n cap z, c2 = .sl b o n cap z → s'.nx ≤ b)) (n := M.length)
    ⟨0, .nils, rfl, Nat.zero_le _, ⟨?_, ?_⟩, ⟨?_, ?_⟩, ⟨?_, ?_⟩, ⟨?_, ?_⟩, ⟨?_, ?_⟩, Nat.le_refl _, hsl, SlAt.nil s' 4, ?_, (fun b o n cap z h => by cases h)⟩ ?_)
  all_goals first | (simp only [zEA, Nat.reduceShiftRight, Nat.reduceMod, Nat.reduceEqDiff, Nat.reduceAdd, ↓reduceIte, reduceCtorEq, g3, k3, g4, k4]; done) | (simp only [zEV, Nat.reduceShiftRight, Nat.reduceMod, Nat.reduceEqDiff, Nat.reduceAdd, ↓reduceIte, reduceCtorEq]; rfl) | skip
  · intro b o n cap z hc
    rcases hsl.2 with ⟨e, _⟩ | ⟨b', sh, anc, e, _, _, hlt⟩
    · rw [e] at hc; cases hc
    · rw [e] at hc; cases hc; exact hlt
  rintro n a2 s2 ⟨i, c2, rfl, hi, ⟨g3', k3'⟩, ⟨g20, k20⟩, ⟨g4', k4'⟩, ⟨g21, k21⟩, ⟨g22, k22⟩, hnx, hc1, hc2, hb1, hb2⟩
  by_cases hlt : i < M.length
  · obtain ⟨x, hx⟩ : ∃ x, M[i]? = some x := ⟨_, List.getElem?_eq_getElem hlt⟩
    have hgx := hgood x (List.mem_of_getElem? hx)
    rcases hc1.2 with ⟨_, e⟩ | ⟨b, sh, anc, rfl, hrow, _, hbn⟩
    · subst e; simp at hlt
    have hix := index_sl (us26 X) (sz38 X) b 0 M.length none 4 hlt
    have hrd : ldHA 4 s2.h.get b (0 + i * 4) = some (.agg (cellsD x)) := by
      unfold ldHA
      rw [Nat.zero_add, slat_read hc1.1 hrow hx]
    have hxl : (cellsD x).length = 4 := by simp [cellsD, goodC_len hgx]
    obtain ⟨s3, w3, r3, n3, o3⟩ := row_written s2 [.int .i64 0, .nils, .nils, .str ⟨0, 0⟩] (cellsD x) hxl
    have hsu := i64_1000 hlt hn
    have hrow3 : s3.h.get b = some (.row ⟨T.ofL (cellsD M.flatten), (cellsD M.flatten).length, true, sh, anc⟩) := by rw [o3 b hbn]; exact hrow
    have hsr := slice_rest (n := M.length) (z := 4) (us26 X) (sz38 X) (look := s3.h.get) hrow3 (cells_len 4 M hc1.1) (by decide) (show i + 1 ≤ M.length from hlt)
    simp only [zEV, Nat.reduceShiftRight, Nat.reduceMod, Nat.reduceEqDiff, Nat.reduceAdd, ↓reduceIte, reduceCtorEq, g3', k3', g20, k20, g4', k4', g21, k21, g22, k22, lt_true hlt, hix, ldh38, hrd, al38, st38, hxl, w3, hsu, go_makeFunc, rMakeFunc_one, rSlice_eq, hsr]
    refine go_call _ _ _ _ _ _ (ws := [.c (.sl b ((i + 1) * 4) (M.length - (i + 1)) none 4), .c (.fn 11 [(s2.nx, 0)])]) rfl (by simp only [zEA, Nat.reduceShiftRight, Nat.reduceMod, Nat.reduceEqDiff, Nat.reduceAdd, ↓reduceIte, reduceCtorEq, argsOf_cons, argsOf_nil]) ?_
    refine contains32 X h32 h35 h33 hgood hn s3 (fun j y hy => slat_read hc1.1 hrow3 hy) (by omega) r3 (by omega) hgx hlt _ fun t s4 ht hk4 => ?_
    have hag : t = true ↔ againD M i := by
      rw [ht]
      constructor
      · rintro ⟨j, y, h1, h2, h3⟩
        exact ⟨j, y, x, h1, h2, hx, h3⟩
      · rintro ⟨j, y, x', h1, h2, h3, h4⟩
        rw [hx] at h3; cases h3
        exact ⟨j, y, h1, h2, h4⟩
    have hk24 : ∀ x, x < s2.nx → s4.h.get x = s2.h.get x := fun x hx => by rw [hk4.2 x (by omega), o3 x hx]
    have hn4 : s2.nx + 1 ≤ s4.nx := by have := hk4.1; omega
    have hc1' : SlAt s4 (.sl b 0 M.length none 4) 4 M := SlAt.other hc1 (by omega) (fun b hb _ _ _ _ _ => hk24 b hb)
    have hc2' : SlAt s4 c2 4 (lastP M i) := SlAt.other hc2 (by omega) (fun b hb _ _ _ _ _ => hk24 b hb)
    cases t with
    | true =>
      simp only [zEV, Nat.reduceShiftRight, Nat.reduceMod, Nat.reduceEqDiff, Nat.reduceAdd, ↓reduceIte, reduceCtorEq, g3', k3', g20, k20, g4', k4', g21, k21, g22, k22, ldh38, hsu, us26]
      refine ⟨_, ?_, i + 1, c2, rfl, hlt, ⟨?_, ?_⟩, ⟨?_, ?_⟩, ⟨?_, ?_⟩, ⟨?_, ?_⟩, ⟨?_, ?_⟩, ?_, hc1', ?_, hb1, hb2⟩
      all_goals first | (simp only [zEV, Nat.reduceShiftRight, Nat.reduceMod, Nat.reduceEqDiff, Nat.reduceAdd, ↓reduceIte, reduceCtorEq, g3', k3', g20, k20, g4', k4', g21, k21, g22, k22, ldh38, hsu, us26]; done) | omega | skip
      rw [lastP_again (hag.1 rfl)]; exact hc2'
    | false =>
      have hna : ¬ againD M i := fun h => by have := hag.2 h; cases this
      have hlp := lastP_le M i
      obtain ⟨c3, s5, happ, hsl5, hk5, hb5⟩ := app_one2 (el26 X) ti38.1 hc2' (goodC_len hgx) (by decide) (by
        rw [ti38.2]
        have : maxBytes = 140737488355328 := rfl
        omega)
      have l8 : ldHA 4 s4.h.get s2.nx 0 = some (.agg (cellsD x)) := by
        have := (r3.keep (s' := s4) (hk4.2 _ (by omega))).ldA
        rwa [hxl] at this
      obtain ⟨nn, av, vs, inp, rfl, _, _, _⟩ := hgx
      simp only [cellsD_cons, cellsD_nil, toC_int, toC_strD] at happ l8
      simp only [zEV, Nat.reduceShiftRight, Nat.reduceMod, Nat.reduceEqDiff, Nat.reduceAdd, ↓reduceIte, reduceCtorEq, g3', k3', g20, k20, g4', k4', g21, k21, g22, k22, ldh38, hsu, us26, l8, nBuildSlice_eq, partsOf_cons, partsOf_nil, bS26_1, happ]
      have hn5 : s4.nx + 1 ≤ s5.nx := by have := hk5.1; rwa [St.new_nx] at this
      refine ⟨_, ?_, i + 1, c3, rfl, hlt, ⟨?_, ?_⟩, ⟨?_, ?_⟩, ⟨?_, ?_⟩, ⟨?_, ?_⟩, ⟨?_, ?_⟩, ?_, ?_, ?_, hb1, fun b' o n cap z hc => by have := hb5 _ _ _ _ _ hc; omega⟩
      all_goals first | (simp only [zEV, Nat.reduceShiftRight, Nat.reduceMod, Nat.reduceEqDiff, Nat.reduceAdd, ↓reduceIte, reduceCtorEq, g3', k3', g20, k20, g4', k4', g21, k21, g22, k22, ldh38, hsu, us26]; done) | omega | skip
      · refine SlAt.other hc1' (by omega) fun b' hb' o n cap z hc => ?_
        cases hc
        rw [hk5.2 b (by rw [St.new_nx]; omega) (fun b'' o n cap z hc e => by have h1 := hb2 _ _ _ _ _ hc; have h2 := hb1 _ _ _ _ _ rfl; omega), new_old _ _ (by omega)]
      · rw [lastP_not hna hx]; exact hsl5
  · simp only [zEV, Nat.reduceShiftRight, Nat.reduceMod, Nat.reduceEqDiff, Nat.reduceAdd, ↓reduceIte, reduceCtorEq, g3', k3', g20, k20, g4', k4', g21, k21, g22, k22, lt_false hlt]
    have : i = M.length := by omega
    subst this
    exact hK c2 s2 hc2
end Pc
