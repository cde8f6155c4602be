import Derived.Test.YtaapmoclinjefaaDoorArM
import Derived.Test.YtaapmoclinjefaaDoorEwL
namespace Ar
open Go Go.Proofs Ev Go.Lib Nu
set_option linter.unusedVariables false
set_option linter.unusedSimpArgs false
set_option linter.unnecessarySimpa false
set_option maxRecDepth 100000
theorem lit_c42 : Str.of { data := #[42] } = Str.ofL [42] := of_lit [42]
theorem lit_c47 : Str.of { data := #[47] } = Str.ofL [47] := of_lit [47]
theorem lit_c37 : Str.of { data := #[37] } = Str.ofL [37] := of_lit [37]
theorem lit_c43 : Str.of { data := #[43] } = Str.ofL [43] := of_lit [43]
theorem lit_c45 : Str.of { data := #[45] } = Str.ofL [45] := of_lit [45]
theorem prod30 (X : T Ext) {n : Nat} (hX : (En X).ext.get 30 = none) (hS : (En X).ext.get 45 = some (.me (ofM (RK .U n)) [])) (h18 : (En X).ext.get 18 = some (.me (ofM RTake) [])) {l : List UInt8} {bd : Bool} {t : Tr} {l' : List UInt8} {b' : Bool} (hl : l.length < n) (h900 : l.length ≤ 900) (hp : Ps .P l bd t l' b') {b : Nat} {s : St} (hb : b < s.nx) (hr : LRow s b (cellsD (prD l bd)))
    (K : V → St → Prop) (hK : ∀ c m s', m ≤ 1800 → HasT s' b m c t → LRow s' b (cellsD (prD l' b')) → K (vc c) s') : goC (En X) 30 [.c (.ptr b 0)] s K := by
  refine goC_body hX (kp30 X) (fn30 X) rfl (by kernel_rfl) ?_
  have hres : Tryd.f30.results.toList = [.tmp 2] := rfl
  cases hp with
  | @prod _ _ u0 l1 b1 _ _ _ hU hPL =>
  obtain ⟨s2, hc, r2, n2, f2⟩ := callR_K hS hl hU hr
  simp only [zEV, Nat.reduceShiftRight, Nat.reduceMod, Nat.reduceEqDiff, Nat.reduceAdd, ↓reduceIte, reduceCtorEq]
  refine go_call _ _ _ _ _ _ (ws := [.c (.ptr b 0)]) rfl (by simp only [zEA, Nat.reduceShiftRight, Nat.reduceMod, Nat.reduceEqDiff, Nat.reduceAdd, ↓reduceIte, reduceCtorEq, argsOf_cons, argsOf_nil]) ?_
  refine goC_of hc ?_
  simp only [zEV, Nat.reduceShiftRight, Nat.reduceMod, Nat.reduceEqDiff, Nat.reduceAdd, ↓reduceIte, reduceCtorEq]
  have hle1 := hU.le
  refine go_loop (goL_inv (fun n' a' s' => ∃ lc bc tc c m, n' = lc.length ∧ lc.length ≤ l.length ∧ m ≤ 2 * (l.length - lc.length) ∧ Ps (.PL tc) lc bc t l' b' ∧ HasT s' b m c tc ∧ Has a' 0 (vc (.ptr b 0)) ∧ Has a' 3 (vc c) ∧ LRow s' b (cellsD (prD lc bc)) ∧ b < s'.nx) (n := l1.length)
    ⟨l1, b1, u0, _, 0, rfl, hle1, Nat.zero_le _, hPL, HasT.data _ b u0, ⟨rfl, rfl⟩, ⟨rfl, rfl⟩, r2, by omega⟩ ?_)
  rintro n' a' s' ⟨lc, bc, tc, c, m, rfl, hlc, hm, hq, hT, ⟨g0, k0⟩, ⟨g3, k3⟩, r3, hb3⟩
  have c1 := pr1 r3
  have q0 := LRow.new s' (sgP.map fun x => C.str (Str.ofL x))
  have r4 := r3.keep (new_old s' (.row (mkRow (sgP.map fun x => C.str (Str.ofL x)))) hb3)
  have n0 : (s'.new (.row (mkRow (sgP.map fun x => C.str (Str.ofL x))))).nx = s'.nx + 1 := St.new_nx _ _
  have hT4 : HasT (s'.new (.row (mkRow (sgP.map fun x => C.str (Str.ofL x))))) b m c tc := hT.keep (by omega) fun x _ hx => new_old s' _ hx
  have hk4 : ∀ x, x < s'.nx → (s'.new (.row (mkRow (sgP.map fun x => C.str (Str.ofL x))))).h.get x = s'.h.get x := fun x hx => new_old s' _ hx
  have hrow : Blk.row (mkRow [C.str (Str.ofL [42]), C.str (Str.ofL [47]), C.str (Str.ofL [37])]) = .row (mkRow (sgP.map fun x => C.str (Str.ofL x))) := rfl
  cases hq with
  | pbad =>
    simp only [zEV, Nat.reduceShiftRight, Nat.reduceMod, Nat.reduceEqDiff, Nat.reduceAdd, ↓reduceIte, reduceCtorEq, g0, k0, g3, k3, rNil_eq, fA_36_1, ldh4, c1, hres]
    exact hK c m _ (by omega) hT r3
  | pend h1 =>
    simp only [zEV, Nat.reduceShiftRight, Nat.reduceMod, Nat.reduceEqDiff, Nat.reduceAdd, ↓reduceIte, reduceCtorEq, g0, k0, g3, k3, rNil_eq, fA_36_1, ldh4, c1, nBuildSlice_eq, partsOf_cons, partsOf_nil, lit_c42, lit_c47, lit_c37, bS66_3, hrow]
    generalize s'.new (.row (mkRow (sgP.map fun x => C.str (Str.ofL x)))) = s4 at q0 r4 n0 hT4 hk4 ⊢
    obtain ⟨s5, hc5, r5, n5, f5⟩ := callR_tk h18 sgP (by decide) r4 q0 (by omega)
    refine go_call _ _ _ _ _ _ (ws := [.c (.ptr b 0), .c (.sl s'.nx 0 3 (some 3) 1)]) rfl (by simp only [zEV, Nat.reduceShiftRight, Nat.reduceMod, Nat.reduceEqDiff, Nat.reduceAdd, ↓reduceIte, reduceCtorEq, g0, k0, g3, k3, argsOf_cons, argsOf_nil]) ?_
    refine goC_of hc5 ?_
    have he : ((tk sgP lc).1 == ([] : List UInt8)) = true := by rw [h1]; rfl
    simp only [zEV, Nat.reduceShiftRight, Nat.reduceMod, Nat.reduceEqDiff, Nat.reduceAdd, ↓reduceIte, reduceCtorEq, g0, k0, g3, k3, lit_0, he, hres]
    exact hK c m _ (by omega) (hT.keep (by omega) fun x h1 h2 => (f5 x (by omega) (by omega)).trans (hk4 x h2)) r5
  | @pmore _ _ u l2 b2 _ _ _ h1 hU2 hPL2 =>
    have hlt := tk_lt h1
    have hle2 := hU2.le
    simp only [zEV, Nat.reduceShiftRight, Nat.reduceMod, Nat.reduceEqDiff, Nat.reduceAdd, ↓reduceIte, reduceCtorEq, g0, k0, g3, k3, rNil_eq, fA_36_1, ldh4, c1, nBuildSlice_eq, partsOf_cons, partsOf_nil, lit_c42, lit_c47, lit_c37, bS66_3, hrow]
    generalize s'.new (.row (mkRow (sgP.map fun x => C.str (Str.ofL x)))) = s4 at q0 r4 n0 hT4 hk4 ⊢
    obtain ⟨s5, hc5, r5, n5, f5⟩ := callR_tk h18 sgP (by decide) r4 q0 (by omega)
    refine go_call _ _ _ _ _ _ (ws := [.c (.ptr b 0), .c (.sl s'.nx 0 3 (some 3) 1)]) rfl (by simp only [zEV, Nat.reduceShiftRight, Nat.reduceMod, Nat.reduceEqDiff, Nat.reduceAdd, ↓reduceIte, reduceCtorEq, g0, k0, g3, k3, argsOf_cons, argsOf_nil]) ?_
    refine goC_of hc5 ?_
    have he : ((tk sgP lc).1 == ([] : List UInt8)) = false := by simpa using h1
    obtain ⟨s6, hc6, r6, n6, f6⟩ := callR_K hS (by omega) hU2 r5
    have hT6 : HasT s6 b m c tc := hT.keep (by omega) fun x h1 h2 => (f6 x (by omega)).trans ((f5 x (by omega) (by omega)).trans (hk4 x h2))
    obtain ⟨hT7, r7⟩ := node_bin (by omega) r6 hT6 ((HasT.data s6 b u).mono (Nat.zero_le m)) (tk sgP lc).1
    simp only [zEV, Nat.reduceShiftRight, Nat.reduceMod, Nat.reduceEqDiff, Nat.reduceAdd, ↓reduceIte, reduceCtorEq, g0, k0, g3, k3, lit_0, he]
    refine go_call _ _ _ _ _ _ (ws := [.c (.ptr b 0)]) rfl (by simp only [zEV, Nat.reduceShiftRight, Nat.reduceMod, Nat.reduceEqDiff, Nat.reduceAdd, ↓reduceIte, reduceCtorEq, g0, k0, g3, k3, argsOf_cons, argsOf_nil]) ?_
    refine goC_of hc6 ?_
    simp only [zEV, Nat.reduceShiftRight, Nat.reduceMod, Nat.reduceEqDiff, Nat.reduceAdd, ↓reduceIte, reduceCtorEq, g0, k0, g3, k3, nBuildSlice_eq, partsOf_cons, partsOf_nil, bS50_2, rBuild_eq', bu52_02]
    have m1 : (s6.new (.row (mkRow [c, (dT u).toC]))).nx = s6.nx + 1 := St.new_nx _ _
    have m2 : ((s6.new (.row (mkRow [c, (dT u).toC]))).new (.row (mkRow [.str (Str.ofL (tk sgP lc).1), .str (Str.ofL []), .sl s6.nx 0 2 (some 2) 1]))).nx = (s6.new (.row (mkRow [c, (dT u).toC]))).nx + 1 := St.new_nx _ _
    refine ⟨l2.length, ?_, l2, b2, _, _, m + 2, rfl, ?_, ?_, hPL2, hT7, ⟨?_, ?_⟩, ⟨?_, ?_⟩, r7, ?_⟩
    all_goals first | (simp only [zEA, Nat.reduceShiftRight, Nat.reduceMod, Nat.reduceEqDiff, Nat.reduceAdd, ↓reduceIte, reduceCtorEq, g0, k0, g3, k3]; done) | omega
theorem sum17 (X : T Ext) {n : Nat} (hX : (En X).ext.get 17 = none) (hS : (En X).ext.get 30 = some (.me (ofM (RK .P n)) [])) (h18 : (En X).ext.get 18 = some (.me (ofM RTake) [])) {l : List UInt8} {bd : Bool} {t : Tr} {l' : List UInt8} {b' : Bool} (hl : l.length < n) (h900 : l.length ≤ 900) (hp : Ps .S l bd t l' b') {b : Nat} {s : St} (hb : b < s.nx) (hr : LRow s b (cellsD (prD l bd)))
    (K : V → St → Prop) (hK : ∀ c m s', m ≤ 1800 → HasT s' b m c t → LRow s' b (cellsD (prD l' b')) → K (vc c) s') : goC (En X) 17 [.c (.ptr b 0)] s K := by
  refine goC_body hX (kp17 X) (fn17 X) rfl (by kernel_rfl) ?_
  have hres : Tryd.f17.results.toList = [.tmp 2] := rfl
  cases hp with
  | @sum _ _ u0 l1 b1 _ _ _ hU hPL =>
  obtain ⟨s2, hc, r2, n2, f2⟩ := callR_K hS hl hU hr
  simp only [zEV, Nat.reduceShiftRight, Nat.reduceMod, Nat.reduceEqDiff, Nat.reduceAdd, ↓reduceIte, reduceCtorEq]
  refine go_call _ _ _ _ _ _ (ws := [.c (.ptr b 0)]) rfl (by simp only [zEA, Nat.reduceShiftRight, Nat.reduceMod, Nat.reduceEqDiff, Nat.reduceAdd, ↓reduceIte, reduceCtorEq, argsOf_cons, argsOf_nil]) ?_
  refine goC_of hc ?_
  simp only [zEV, Nat.reduceShiftRight, Nat.reduceMod, Nat.reduceEqDiff, Nat.reduceAdd, ↓reduceIte, reduceCtorEq]
  have hle1 := hU.le
  refine go_loop (goL_inv (fun n' a' s' => ∃ lc bc tc c m, n' = lc.length ∧ lc.length ≤ l.length ∧ m ≤ 2 * (l.length - lc.length) ∧ Ps (.SL tc) lc bc t l' b' ∧ HasT s' b m c tc ∧ Has a' 0 (vc (.ptr b 0)) ∧ Has a' 3 (vc c) ∧ LRow s' b (cellsD (prD lc bc)) ∧ b < s'.nx) (n := l1.length)
    ⟨l1, b1, u0, _, 0, rfl, hle1, Nat.zero_le _, hPL, HasT.data _ b u0, ⟨rfl, rfl⟩, ⟨rfl, rfl⟩, r2, by omega⟩ ?_)
  rintro n' a' s' ⟨lc, bc, tc, c, m, rfl, hlc, hm, hq, hT, ⟨g0, k0⟩, ⟨g3, k3⟩, r3, hb3⟩
  have c1 := pr1 r3
  have q0 := LRow.new s' (sgS.map fun x => C.str (Str.ofL x))
  have r4 := r3.keep (new_old s' (.row (mkRow (sgS.map fun x => C.str (Str.ofL x)))) hb3)
  have n0 : (s'.new (.row (mkRow (sgS.map fun x => C.str (Str.ofL x))))).nx = s'.nx + 1 := St.new_nx _ _
  have hT4 : HasT (s'.new (.row (mkRow (sgS.map fun x => C.str (Str.ofL x))))) b m c tc := hT.keep (by omega) fun x _ hx => new_old s' _ hx
  have hk4 : ∀ x, x < s'.nx → (s'.new (.row (mkRow (sgS.map fun x => C.str (Str.ofL x))))).h.get x = s'.h.get x := fun x hx => new_old s' _ hx
  have hrow : Blk.row (mkRow [C.str (Str.ofL [43]), C.str (Str.ofL [45])]) = .row (mkRow (sgS.map fun x => C.str (Str.ofL x))) := rfl
  cases hq with
  | sbad =>
    simp only [zEV, Nat.reduceShiftRight, Nat.reduceMod, Nat.reduceEqDiff, Nat.reduceAdd, ↓reduceIte, reduceCtorEq, g0, k0, g3, k3, rNil_eq, fA_36_1, ldh4, c1, hres]
    exact hK c m _ (by omega) hT r3
  | send h1 =>
    simp only [zEV, Nat.reduceShiftRight, Nat.reduceMod, Nat.reduceEqDiff, Nat.reduceAdd, ↓reduceIte, reduceCtorEq, g0, k0, g3, k3, rNil_eq, fA_36_1, ldh4, c1, nBuildSlice_eq, partsOf_cons, partsOf_nil, lit_c43, lit_c45, bS66_2, hrow]
    generalize s'.new (.row (mkRow (sgS.map fun x => C.str (Str.ofL x)))) = s4 at q0 r4 n0 hT4 hk4 ⊢
    obtain ⟨s5, hc5, r5, n5, f5⟩ := callR_tk h18 sgS (by decide) r4 q0 (by omega)
    refine go_call _ _ _ _ _ _ (ws := [.c (.ptr b 0), .c (.sl s'.nx 0 2 (some 2) 1)]) rfl (by simp only [zEV, Nat.reduceShiftRight, Nat.reduceMod, Nat.reduceEqDiff, Nat.reduceAdd, ↓reduceIte, reduceCtorEq, g0, k0, g3, k3, argsOf_cons, argsOf_nil]) ?_
    refine goC_of hc5 ?_
    have he : ((tk sgS lc).1 == ([] : List UInt8)) = true := by rw [h1]; rfl
    simp only [zEV, Nat.reduceShiftRight, Nat.reduceMod, Nat.reduceEqDiff, Nat.reduceAdd, ↓reduceIte, reduceCtorEq, g0, k0, g3, k3, lit_0, he, hres]
    exact hK c m _ (by omega) (hT.keep (by omega) fun x h1 h2 => (f5 x (by omega) (by omega)).trans (hk4 x h2)) r5
  | @smore _ _ u l2 b2 _ _ _ h1 hU2 hPL2 =>
    have hlt := tk_lt h1
    have hle2 := hU2.le
    simp only [zEV, Nat.reduceShiftRight, Nat.reduceMod, Nat.reduceEqDiff, Nat.reduceAdd, ↓reduceIte, reduceCtorEq, g0, k0, g3, k3, rNil_eq, fA_36_1, ldh4, c1, nBuildSlice_eq, partsOf_cons, partsOf_nil, lit_c43, lit_c45, bS66_2, hrow]
    generalize s'.new (.row (mkRow (sgS.map fun x => C.str (Str.ofL x)))) = s4 at q0 r4 n0 hT4 hk4 ⊢
    obtain ⟨s5, hc5, r5, n5, f5⟩ := callR_tk h18 sgS (by decide) r4 q0 (by omega)
    refine go_call _ _ _ _ _ _ (ws := [.c (.ptr b 0), .c (.sl s'.nx 0 2 (some 2) 1)]) rfl (by simp only [zEV, Nat.reduceShiftRight, Nat.reduceMod, Nat.reduceEqDiff, Nat.reduceAdd, ↓reduceIte, reduceCtorEq, g0, k0, g3, k3, argsOf_cons, argsOf_nil]) ?_
    refine goC_of hc5 ?_
    have he : ((tk sgS lc).1 == ([] : List UInt8)) = false := by simpa using h1
    obtain ⟨s6, hc6, r6, n6, f6⟩ := callR_K hS (by omega) hU2 r5
    have hT6 : HasT s6 b m c tc := hT.keep (by omega) fun x h1 h2 => (f6 x (by omega)).trans ((f5 x (by omega) (by omega)).trans (hk4 x h2))
    obtain ⟨hT7, r7⟩ := node_bin (by omega) r6 hT6 ((HasT.data s6 b u).mono (Nat.zero_le m)) (tk sgS lc).1
    simp only [zEV, Nat.reduceShiftRight, Nat.reduceMod, Nat.reduceEqDiff, Nat.reduceAdd, ↓reduceIte, reduceCtorEq, g0, k0, g3, k3, lit_0, he]
    refine go_call _ _ _ _ _ _ (ws := [.c (.ptr b 0)]) rfl (by simp only [zEV, Nat.reduceShiftRight, Nat.reduceMod, Nat.reduceEqDiff, Nat.reduceAdd, ↓reduceIte, reduceCtorEq, g0, k0, g3, k3, argsOf_cons, argsOf_nil]) ?_
    refine goC_of hc6 ?_
    simp only [zEV, Nat.reduceShiftRight, Nat.reduceMod, Nat.reduceEqDiff, Nat.reduceAdd, ↓reduceIte, reduceCtorEq, g0, k0, g3, k3, nBuildSlice_eq, partsOf_cons, partsOf_nil, bS50_2, rBuild_eq', bu52_02]
    have m1 : (s6.new (.row (mkRow [c, (dT u).toC]))).nx = s6.nx + 1 := St.new_nx _ _
    have m2 : ((s6.new (.row (mkRow [c, (dT u).toC]))).new (.row (mkRow [.str (Str.ofL (tk sgS lc).1), .str (Str.ofL []), .sl s6.nx 0 2 (some 2) 1]))).nx = (s6.new (.row (mkRow [c, (dT u).toC]))).nx + 1 := St.new_nx _ _
    refine ⟨l2.length, ?_, l2, b2, _, _, m + 2, rfl, ?_, ?_, hPL2, hT7, ⟨?_, ?_⟩, ⟨?_, ?_⟩, r7, ?_⟩
    all_goals first | (simp only [zEA, Nat.reduceShiftRight, Nat.reduceMod, Nat.reduceEqDiff, Nat.reduceAdd, ↓reduceIte, reduceCtorEq, g0, k0, g3, k3]; done) | omega
theorem lit_x1 : Str.of { data := #[60, 61] } = Str.ofL [60, 61] := of_lit _
theorem lit_x2 : Str.of { data := #[62, 61] } = Str.ofL [62, 61] := of_lit _
theorem lit_x3 : Str.of { data := #[61, 61] } = Str.ofL [61, 61] := of_lit _
theorem lit_x4 : Str.of { data := #[33, 61] } = Str.ofL [33, 61] := of_lit _
theorem lit_x5 : Str.of { data := #[60] } = Str.ofL [60] := of_lit _
theorem lit_x6 : Str.of { data := #[62] } = Str.ofL [62] := of_lit _
theorem expr10 (X : T Ext) {n : Nat} (hX : (En X).ext.get 10 = none) (hS : (En X).ext.get 17 = some (.me (ofM (RK .S n)) [])) (h18 : (En X).ext.get 18 = some (.me (ofM RTake) [])) {l : List UInt8} {bd : Bool} {t : Tr} {l' : List UInt8} {b' : Bool} (hl : l.length < n) (hp : Ps .X l bd t l' b') {b : Nat} {s : St} (hb : b < s.nx) (hr : LRow s b (cellsD (prD l bd)))
    (K : V → St → Prop) (hK : ∀ c s', HasT s' b 4 c t → LRow s' b (cellsD (prD l' b')) → K (vc c) s') : goC (En X) 10 [.c (.ptr b 0)] s K := by
  refine goC_body hX (kp10 X) (fn10 X) rfl (by kernel_rfl) ?_
  have hres : Tryd.f10.results.toList = [.tmp 2] := rfl
  cases hp with
  | @expr _ _ t0 l1 b1 hU h1 =>
    obtain ⟨s2, hc, r2, n2, f2⟩ := callR_K hS hl hU hr
    simp only [zEV, Nat.reduceShiftRight, Nat.reduceMod, Nat.reduceEqDiff, Nat.reduceAdd, ↓reduceIte, reduceCtorEq]
    refine go_call _ _ _ _ _ _ (ws := [.c (.ptr b 0)]) rfl (by simp only [zEA, Nat.reduceShiftRight, Nat.reduceMod, Nat.reduceEqDiff, Nat.reduceAdd, ↓reduceIte, reduceCtorEq, argsOf_cons, argsOf_nil]) ?_
    refine goC_of hc ?_
    have hle1 := hU.le
    have q0 := LRow.new s2 (sgX.map fun x => C.str (Str.ofL x))
    have hk4 : ∀ x, x < s2.nx → (s2.new (.row (mkRow (sgX.map fun x => C.str (Str.ofL x))))).h.get x = s2.h.get x := fun x hx => new_old s2 _ hx
    have r4 := r2.keep (hk4 b (by omega))
    have n0 : (s2.new (.row (mkRow (sgX.map fun x => C.str (Str.ofL x))))).nx = s2.nx + 1 := St.new_nx _ _
    have hrow : Blk.row (mkRow [C.str (Str.ofL [60, 61]), C.str (Str.ofL [62, 61]), C.str (Str.ofL [61, 61]), C.str (Str.ofL [33, 61]), C.str (Str.ofL [60]), C.str (Str.ofL [62])]) = .row (mkRow (sgX.map fun x => C.str (Str.ofL x))) := rfl
    simp only [zEV, Nat.reduceShiftRight, Nat.reduceMod, Nat.reduceEqDiff, Nat.reduceAdd, ↓reduceIte, reduceCtorEq, nBuildSlice_eq, partsOf_cons, partsOf_nil, lit_x1, lit_x2, lit_x3, lit_x4, lit_x5, lit_x6, bS66_6, hrow]
    generalize s2.new (.row (mkRow (sgX.map fun x => C.str (Str.ofL x)))) = s4 at q0 r4 n0 hk4 ⊢
    obtain ⟨s5, hc5, r5, n5, f5⟩ := callR_tk h18 sgX (by decide) r4 q0 (by omega)
    refine go_call _ _ _ _ _ _ (ws := [.c (.ptr b 0), .c (.sl s2.nx 0 6 (some 6) 1)]) rfl (by simp only [zEA, Nat.reduceShiftRight, Nat.reduceMod, Nat.reduceEqDiff, Nat.reduceAdd, ↓reduceIte, reduceCtorEq, argsOf_cons, argsOf_nil]) ?_
    refine goC_of hc5 ?_
    have he : ((tk sgX l1).1 == ([] : List UInt8)) = true := by rw [h1]; rfl
    simp only [zEV, Nat.reduceShiftRight, Nat.reduceMod, Nat.reduceEqDiff, Nat.reduceAdd, ↓reduceIte, reduceCtorEq, lit_0, he, hres]
    exact hK _ _ ((HasT.data _ b t).mono (by omega)) r5
  | @cmp _ _ t0 l1 b1 u _ _ hU h1 hU2 =>
    obtain ⟨s2, hc, r2, n2, f2⟩ := callR_K hS hl hU hr
    simp only [zEV, Nat.reduceShiftRight, Nat.reduceMod, Nat.reduceEqDiff, Nat.reduceAdd, ↓reduceIte, reduceCtorEq]
    refine go_call _ _ _ _ _ _ (ws := [.c (.ptr b 0)]) rfl (by simp only [zEA, Nat.reduceShiftRight, Nat.reduceMod, Nat.reduceEqDiff, Nat.reduceAdd, ↓reduceIte, reduceCtorEq, argsOf_cons, argsOf_nil]) ?_
    refine goC_of hc ?_
    have hle1 := hU.le
    have q0 := LRow.new s2 (sgX.map fun x => C.str (Str.ofL x))
    have hk4 : ∀ x, x < s2.nx → (s2.new (.row (mkRow (sgX.map fun x => C.str (Str.ofL x))))).h.get x = s2.h.get x := fun x hx => new_old s2 _ hx
    have r4 := r2.keep (hk4 b (by omega))
    have n0 : (s2.new (.row (mkRow (sgX.map fun x => C.str (Str.ofL x))))).nx = s2.nx + 1 := St.new_nx _ _
    have hrow : Blk.row (mkRow [C.str (Str.ofL [60, 61]), C.str (Str.ofL [62, 61]), C.str (Str.ofL [61, 61]), C.str (Str.ofL [33, 61]), C.str (Str.ofL [60]), C.str (Str.ofL [62])]) = .row (mkRow (sgX.map fun x => C.str (Str.ofL x))) := rfl
    simp only [zEV, Nat.reduceShiftRight, Nat.reduceMod, Nat.reduceEqDiff, Nat.reduceAdd, ↓reduceIte, reduceCtorEq, nBuildSlice_eq, partsOf_cons, partsOf_nil, lit_x1, lit_x2, lit_x3, lit_x4, lit_x5, lit_x6, bS66_6, hrow]
    generalize s2.new (.row (mkRow (sgX.map fun x => C.str (Str.ofL x)))) = s4 at q0 r4 n0 hk4 ⊢
    obtain ⟨s5, hc5, r5, n5, f5⟩ := callR_tk h18 sgX (by decide) r4 q0 (by omega)
    refine go_call _ _ _ _ _ _ (ws := [.c (.ptr b 0), .c (.sl s2.nx 0 6 (some 6) 1)]) rfl (by simp only [zEA, Nat.reduceShiftRight, Nat.reduceMod, Nat.reduceEqDiff, Nat.reduceAdd, ↓reduceIte, reduceCtorEq, argsOf_cons, argsOf_nil]) ?_
    refine goC_of hc5 ?_
    have hlt := tk_lt h1
    have he : ((tk sgX l1).1 == ([] : List UInt8)) = false := by simpa using h1
    obtain ⟨s6, hc6, r6, n6, f6⟩ := callR_K hS (by omega) hU2 r5
    obtain ⟨hT7, r7⟩ := node_bin (by omega) r6 (HasT.data s6 b t0) (HasT.data s6 b u) (tk sgX l1).1
    simp only [zEV, Nat.reduceShiftRight, Nat.reduceMod, Nat.reduceEqDiff, Nat.reduceAdd, ↓reduceIte, reduceCtorEq, lit_0, he]
    refine go_call _ _ _ _ _ _ (ws := [.c (.ptr b 0)]) rfl (by simp only [zEA, Nat.reduceShiftRight, Nat.reduceMod, Nat.reduceEqDiff, Nat.reduceAdd, ↓reduceIte, reduceCtorEq, argsOf_cons, argsOf_nil]) ?_
    refine goC_of hc6 ?_
    simp only [zEV, Nat.reduceShiftRight, Nat.reduceMod, Nat.reduceEqDiff, Nat.reduceAdd, ↓reduceIte, reduceCtorEq, nBuildSlice_eq, partsOf_cons, partsOf_nil, bS50_2, rBuild_eq', bu52_02, hres]
    exact hK _ _ (hT7.mono (by omega)) r7
end Ar
