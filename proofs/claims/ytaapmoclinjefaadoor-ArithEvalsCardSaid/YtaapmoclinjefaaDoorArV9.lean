import Derived.Test.YtaapmoclinjefaaDoorArV8
import Derived.Test.YtaapmoclinjefaaDoorEwL
namespace Ar
open Go Go.Proofs Ev Go.Lib Nu
set_option linter.unusedVariables false
set_option linter.unusedSimpArgs false
set_option linter.unnecessarySimpa false
set_option maxRecDepth 100000
def evF (vs : List (List UInt8 × List UInt8)) : Tr → Int × Bool
  | .dig t => ((refNum t).getD 0, (refNum t).isSome)
  | .nam t => valV t vs
  | .un op k => if (evF vs k).2 = false then (0, false) else if op = [33] then bitF (decide ((evF vs k).1 = 0)) else (wr (0 - (evF vs k).1), !decide ((evF vs k).1 = minI))
  | .bin op a b => if (evF vs a).2 = false then (0, false) else if (evF vs b).2 = false then (0, false) else twoF op (evF vs a).1 (evF vs b).1
def WfT : Tr → Prop
  | .dig t => t.length ≤ 140737488351232
  | .nam t => True
  | .un op k => op ≠ sDig ∧ op ≠ sNam ∧ WfT k
  | .bin op a b => op ≠ sDig ∧ op ≠ sNam ∧ WfT a ∧ WfT b
def RBit (ps : List PW) (v : PV) : Prop := ∃ c, ps = [.c (.bool c)] ∧ v = pvP (bitF c)
noncomputable def e21 : Nat × Ext := (21, .fn (ofG RBit) [])
theorem c21 : Ok e21 := fn_of_go_g (exts := []) ok0 rfl [] rfl _ (by
  rintro ps pv ⟨c, rfl, rfl⟩
  exact bit21 _ rfl c _ _ fun s' => ⟨[], rfl⟩)
theorem callR_bit {X : T Ext} (h21 : (En X).ext.get 21 = some (.fn (ofG RBit) [])) (c : Bool) (s : St) : CallR (En X) 21 [.c (.bool c)] s (pvP (bitF c)).toV s :=
  callR_fn (ps := [.c (.bool c)]) (pv := pvP (bitF c)) h21 (ofG_eq ⟨c, rfl, rfl⟩ (by
    rintro v' ⟨c', h1, rfl⟩
    simp only [List.cons.injEq, PW.c.injEq, D.bool.injEq, and_true] at h1
    rw [h1])) rfl
theorem toV_pvP (p : Int × Bool) : (pvP p).toV = .tup [.c (.int .i64 p.1), .c (.bool p.2)] := rfl
theorem ix50_0 (X : T Ext) (x : List D) (r : List (List D)) : indexAddr (En X) 50 (.dat 1 (x :: r)) 0 = some (.dp x 0) := (index_dat (us50 X) (sz37 X) (x :: r) 0).trans rfl
theorem ix50_1 (X : T Ext) (x y : List D) (r : List (List D)) : indexAddr (En X) 50 (.dat 1 (x :: y :: r)) 1 = some (.dp y 0) := (index_dat (us50 X) (sz37 X) (x :: y :: r) 1).trans rfl
theorem ldC_str {l : List D} {i : Nat} {z : Str} (h : l[i]? = some (.str z)) : ldC l i = some (.c (.str z)) := by unfold ldC; rw [h]; rfl
theorem eval12 (X : T Ext) (hX : (En X).ext.get 12 = none) (h15 : (En X).ext.get 15 = some (.fn (ofG RNum) gsE)) (h20 : (En X).ext.get 20 = some (.fn (ofG RVal) gsE)) (h21 : (En X).ext.get 21 = some (.fn (ofG RBit) [])) (h22 : (En X).ext.get 22 = some (.fn (ofG RTwo) []))
    {d : D} {vs : List (List UInt8 × List UInt8)} (hv : IsV d vs) (ho : okVs vs) (s : St) (hg : rowsAre s.h.get gsE = true) : ∀ (t : Tr), WfT t → ∀ (K : V → St → Prop), K (pvP (evF vs t)).toV s → goC (En X) 12 [.c (dT t).toC, .c d.toC] s K := by
  have hres : Tryd.f12.results.toList = [.tmp 4, .tmp 5] := rfl
  intro t
  induction t with
  | dig t =>
    intro hw K hK
    refine goC_body hX (kp12 X) (fn12 X) rfl (by kernel_rfl) ?_
    have hd : (dT (.dig t)).toC = .dp [.str (Str.ofL sDig), .str (Str.ofL t), .nils] 0 := by rw [dT]; rfl
    have l0 : ldC [.str (Str.ofL sDig), .str (Str.ofL t), .nils] 0 = some (.c (.str (Str.ofL sDig))) := rfl
    have l1 : ldC [.str (Str.ofL sDig), .str (Str.ofL t), .nils] 1 = some (.c (.str (Str.ofL t))) := rfl
    have e1 : (sDig == sDig) = true := by decide
    rw [hd]
    simp only [zEV, Nat.reduceShiftRight, Nat.reduceMod, Nat.reduceEqDiff, Nat.reduceAdd, ↓reduceIte, reduceCtorEq, rNil_eq, fD_52_0, fD_52_1, Nat.zero_add, ld9, l0, l1, lit_dig, e1]
    refine go_call _ _ _ _ _ _ (ws := [.c (.str (Str.ofL t))]) rfl (by simp only [zEA, Nat.reduceShiftRight, Nat.reduceMod, Nat.reduceEqDiff, Nat.reduceAdd, ↓reduceIte, reduceCtorEq, argsOf_cons, argsOf_nil]) ?_
    refine goC_of (callR_num h15 t hw _ hg) ?_
    simp only [zEV, Nat.reduceShiftRight, Nat.reduceMod, Nat.reduceEqDiff, Nat.reduceAdd, ↓reduceIte, reduceCtorEq, hres]
    exact hK
  | nam t =>
    intro hw K hK
    refine goC_body hX (kp12 X) (fn12 X) rfl (by kernel_rfl) ?_
    have hd : (dT (.nam t)).toC = .dp [.str (Str.ofL sNam), .str (Str.ofL t), .nils] 0 := by rw [dT]; rfl
    have l0 : ldC [.str (Str.ofL sNam), .str (Str.ofL t), .nils] 0 = some (.c (.str (Str.ofL sNam))) := rfl
    have l1 : ldC [.str (Str.ofL sNam), .str (Str.ofL t), .nils] 1 = some (.c (.str (Str.ofL t))) := rfl
    have e1 : (sNam == sDig) = false := by decide
    have e2 : (sNam == sNam) = true := by decide
    rw [hd]
    simp only [zEV, Nat.reduceShiftRight, Nat.reduceMod, Nat.reduceEqDiff, Nat.reduceAdd, ↓reduceIte, reduceCtorEq, rNil_eq, fD_52_0, fD_52_1, Nat.zero_add, ld9, l0, l1, lit_dig, lit_nam, e1, e2]
    refine go_call _ _ _ _ _ _ (ws := [.c (.str (Str.ofL t)), .c d.toC]) rfl (by simp only [zEA, Nat.reduceShiftRight, Nat.reduceMod, Nat.reduceEqDiff, Nat.reduceAdd, ↓reduceIte, reduceCtorEq, argsOf_cons, argsOf_nil]) ?_
    refine goC_of (callR_val h20 t hv ho _ hg) ?_
    simp only [zEV, Nat.reduceShiftRight, Nat.reduceMod, Nat.reduceEqDiff, Nat.reduceAdd, ↓reduceIte, reduceCtorEq, toV_pvP, hres]
    exact hK
  | un op k ih =>
    rintro ⟨w1, w2, w3⟩ K hK
    refine goC_body hX (kp12 X) (fn12 X) rfl (by kernel_rfl) ?_
    have hd : (dT (.un op k)).toC = .dp [.str (Str.ofL op), .str (Str.ofL []), .sl 1 [[dT k]]] 0 := by rw [dT]; rfl
    have l0 : ldC [.str (Str.ofL op), .str (Str.ofL []), .sl 1 [[dT k]]] 0 = some (.c (.str (Str.ofL op))) := rfl
    have l2 : ldC [.str (Str.ofL op), .str (Str.ofL []), .sl 1 [[dT k]]] 2 = some (.c (.dat 1 [[dT k]])) := rfl
    have l3 : ldC [dT k] 0 = some (.c (dT k).toC) := rfl
    have hln : ∀ look, len (En X) 50 look (.dat 1 [[dT k]]) = some 1 := fun look => len_dat (us50 X) 1 [[dT k]]
    have e1 : (op == sDig) = false := by simpa using w1
    have e2 : (op == sNam) = false := by simpa using w2
    rw [hd]
    simp only [zEV, Nat.reduceShiftRight, Nat.reduceMod, Nat.reduceEqDiff, Nat.reduceAdd, ↓reduceIte, reduceCtorEq, rNil_eq, fD_52_0, fD_52_2, Nat.zero_add, ld9, ld50, ld37, l0, l2, l3, lit_dig, lit_nam, e1, e2, ix50_0]
    refine go_call _ _ _ _ _ _ (ws := [.c (dT k).toC, .c d.toC]) rfl (by simp only [zEA, Nat.reduceShiftRight, Nat.reduceMod, Nat.reduceEqDiff, Nat.reduceAdd, ↓reduceIte, reduceCtorEq, argsOf_cons, argsOf_nil]) ?_
    refine ih w3 _ ?_
    rw [toV_pvP]
    rw [evF] at hK
    cases hk : (evF vs k).2 with
    | false =>
      rw [if_pos hk] at hK
      simp only [zEV, Nat.reduceShiftRight, Nat.reduceMod, Nat.reduceEqDiff, Nat.reduceAdd, ↓reduceIte, reduceCtorEq, hk, hres]
      exact hK
    | true =>
      rw [if_neg (by rw [hk]; simp)] at hK
      have h1 : (Int.ofNat 1 = 1) = True := eq_true rfl
      by_cases hop : op = [33]
      · rw [if_pos hop] at hK
        have e3 : (op == ([33] : List UInt8)) = true := by simpa using hop
        simp only [zEV, Nat.reduceShiftRight, Nat.reduceMod, Nat.reduceEqDiff, Nat.reduceAdd, ↓reduceIte, reduceCtorEq, hk, hln, h1, rNil_eq, fD_52_0, fD_52_2, Nat.zero_add, ld9, ld50, l0, l2, lit_bang, e3]
        refine go_call _ _ _ _ _ _ (ws := [.c (.bool (decide ((evF vs k).1 = 0)))]) rfl (by simp only [zEA, Nat.reduceShiftRight, Nat.reduceMod, Nat.reduceEqDiff, Nat.reduceAdd, ↓reduceIte, reduceCtorEq, argsOf_cons, argsOf_nil]) ?_
        refine goC_of (callR_bit h21 _ _) ?_
        simp only [zEV, Nat.reduceShiftRight, Nat.reduceMod, Nat.reduceEqDiff, Nat.reduceAdd, ↓reduceIte, reduceCtorEq, toV_pvP, hres]
        exact hK
      · rw [if_neg hop] at hK
        have e3 : (op == ([33] : List UInt8)) = false := by simpa using hop
        simp only [zEV, Nat.reduceShiftRight, Nat.reduceMod, Nat.reduceEqDiff, Nat.reduceAdd, ↓reduceIte, reduceCtorEq, hk, hln, h1, rNil_eq, fD_52_0, fD_52_2, Nat.zero_add, ld9, ld50, l0, l2, lit_bang, e3, rUn_eq, u_neg, hres]
        exact hK
  | bin op a b iha ihb =>
    rintro ⟨w1, w2, w3, w4⟩ K hK
    refine goC_body hX (kp12 X) (fn12 X) rfl (by kernel_rfl) ?_
    have hd : (dT (.bin op a b)).toC = .dp [.str (Str.ofL op), .str (Str.ofL []), .sl 1 [[dT a], [dT b]]] 0 := by rw [dT]; rfl
    have l0 : ldC [.str (Str.ofL op), .str (Str.ofL []), .sl 1 [[dT a], [dT b]]] 0 = some (.c (.str (Str.ofL op))) := rfl
    have l2 : ldC [.str (Str.ofL op), .str (Str.ofL []), .sl 1 [[dT a], [dT b]]] 2 = some (.c (.dat 1 [[dT a], [dT b]])) := rfl
    have l3 : ldC [dT a] 0 = some (.c (dT a).toC) := rfl
    have l4 : ldC [dT b] 0 = some (.c (dT b).toC) := rfl
    have hln : ∀ look, len (En X) 50 look (.dat 1 [[dT a], [dT b]]) = some 2 := fun look => len_dat (us50 X) 1 [[dT a], [dT b]]
    have e1 : (op == sDig) = false := by simpa using w1
    have e2 : (op == sNam) = false := by simpa using w2
    rw [hd]
    simp only [zEV, Nat.reduceShiftRight, Nat.reduceMod, Nat.reduceEqDiff, Nat.reduceAdd, ↓reduceIte, reduceCtorEq, rNil_eq, fD_52_0, fD_52_2, Nat.zero_add, ld9, ld50, ld37, l0, l2, l3, lit_dig, lit_nam, e1, e2, ix50_0]
    refine go_call _ _ _ _ _ _ (ws := [.c (dT a).toC, .c d.toC]) rfl (by simp only [zEA, Nat.reduceShiftRight, Nat.reduceMod, Nat.reduceEqDiff, Nat.reduceAdd, ↓reduceIte, reduceCtorEq, argsOf_cons, argsOf_nil]) ?_
    refine iha w3 _ ?_
    rw [toV_pvP]
    rw [evF] at hK
    cases hk : (evF vs a).2 with
    | false =>
      rw [if_pos hk] at hK
      simp only [zEV, Nat.reduceShiftRight, Nat.reduceMod, Nat.reduceEqDiff, Nat.reduceAdd, ↓reduceIte, reduceCtorEq, hk, hres]
      exact hK
    | true =>
      rw [if_neg (by rw [hk]; simp)] at hK
      have h1 : (Int.ofNat 2 = 1) = False := eq_false (by decide)
      simp only [zEV, Nat.reduceShiftRight, Nat.reduceMod, Nat.reduceEqDiff, Nat.reduceAdd, ↓reduceIte, reduceCtorEq, hk, hln, h1, rNil_eq, fD_52_0, fD_52_2, Nat.zero_add, ld9, ld50, ld37, l0, l2, l4, ix50_1]
      refine go_call _ _ _ _ _ _ (ws := [.c (dT b).toC, .c d.toC]) rfl (by simp only [zEA, Nat.reduceShiftRight, Nat.reduceMod, Nat.reduceEqDiff, Nat.reduceAdd, ↓reduceIte, reduceCtorEq, argsOf_cons, argsOf_nil]) ?_
      refine ihb w4 _ ?_
      rw [toV_pvP]
      cases hj : (evF vs b).2 with
      | false =>
        rw [if_pos hj] at hK
        simp only [zEV, Nat.reduceShiftRight, Nat.reduceMod, Nat.reduceEqDiff, Nat.reduceAdd, ↓reduceIte, reduceCtorEq, hj, hres]
        exact hK
      | true =>
        rw [if_neg (by rw [hj]; simp)] at hK
        simp only [zEV, Nat.reduceShiftRight, Nat.reduceMod, Nat.reduceEqDiff, Nat.reduceAdd, ↓reduceIte, reduceCtorEq, hj, rNil_eq, fD_52_0, Nat.zero_add, ld9, l0]
        refine go_call _ _ _ _ _ _ (ws := [.c (.str (Str.ofL op)), .c (.int .i64 (evF vs a).1), .c (.int .i64 (evF vs b).1)]) rfl (by simp only [zEA, Nat.reduceShiftRight, Nat.reduceMod, Nat.reduceEqDiff, Nat.reduceAdd, ↓reduceIte, reduceCtorEq, argsOf_cons, argsOf_nil]) ?_
        refine goC_of (callR_two h22 _ _ _ _) ?_
        simp only [zEV, Nat.reduceShiftRight, Nat.reduceMod, Nat.reduceEqDiff, Nat.reduceAdd, ↓reduceIte, reduceCtorEq, toV_pvP, hres]
        exact hK
end Ar

namespace Ar
open Go Go.Proofs Ev Go.Lib Nu
set_option linter.unusedVariables false
set_option linter.unusedSimpArgs false
set_option linter.unnecessarySimpa false
set_option maxRecDepth 100000
def WfK (k : Kd) : Prop := match k with
  | .PL t => WfT t
  | .SL t => WfT t
  | _ => True
theorem tk_op {sg : List (List UInt8)} (hs : ∀ op ∈ sg, op ≠ sDig ∧ op ≠ sNam) {l : List UInt8} (h : (tk sg l).1 ≠ []) : (tk sg l).1 ≠ sDig ∧ (tk sg l).1 ≠ sNam := by
  rcases takeF_mem sg (dropBl l) with h' | h'
  · exact absurd h' h
  · exact hs _ h'
theorem Ps.wf {k : Kd} {l : List UInt8} {b : Bool} {t : Tr} {l' : List UInt8} {b' : Bool} (h : Ps k l b t l' b') : l.length ≤ 1000 → WfK k → WfT t := by
  induction h with
  | @sign l _ _ _ _ h1 _ _ ih => intro hl _; have hq := tk_op (sg := sgU) (by decide) h1; have := tk_lt h1; exact ⟨hq.1, hq.2, ih (by omega) trivial⟩
  | @par l _ _ _ _ h1 _ ih => intro hl _; have := tk_le2 sgU l; exact ih (by omega) trivial
  | @dig l _ _ _ => intro hl _; have := tk_le2 sgU l; have := tw_le digN (tk sgU l).2; show (tw digN (tk sgU l).2).length ≤ _; omega
  | nam => intro _ _; trivial
  | namx => intro _ _; trivial
  | prod h1 _ ih1 ih2 => intro hl _; have := h1.le; exact ih2 (by omega) (ih1 hl trivial)
  | pbad => intro _ h; exact h
  | pend => intro _ h; exact h
  | pmore h1 h2 _ ih1 ih2 => intro hl hw; have hq := tk_op (sg := sgP) (by decide) h1; have := tk_lt h1; have := h2.le; exact ih2 (by omega) ⟨hq.1, hq.2, hw, ih1 (by omega) trivial⟩
  | sum h1 _ ih1 ih2 => intro hl _; have := h1.le; exact ih2 (by omega) (ih1 hl trivial)
  | sbad => intro _ h; exact h
  | send => intro _ h; exact h
  | smore h1 h2 _ ih1 ih2 => intro hl hw; have hq := tk_op (sg := sgS) (by decide) h1; have := tk_lt h1; have := h2.le; exact ih2 (by omega) ⟨hq.1, hq.2, hw, ih1 (by omega) trivial⟩
  | expr h1 _ ih => intro hl _; exact ih hl trivial
  | cmp h1 h2 _ ih1 ih2 => intro hl _; have hq := tk_op (sg := sgX) (by decide) h2; have := h1.le; have := tk_lt h2; exact ⟨hq.1, hq.2, ih1 hl trivial, ih2 (by omega) trivial⟩
def evalF (vs : List (List UInt8 × List UInt8)) (t : Tr) (l' : List UInt8) (b' : Bool) : Int × Int :=
  if b' = true ∨ dropBl l' ≠ [] then (0, 2) else if (evF vs t).2 = true then ((evF vs t).1, 0) else (0, 6)
def pvE (p : Int × Int) : PV := .tup [.c (.int .i64 p.1), .c (.int .i64 p.2)]
theorem bu36_0 (X : T Ext) (x : C) : build (En X) 36 [(0, .c x)] = some (.agg [x, .bool false]) := by kernel_rfl
theorem Eval6 (X : T Ext) (hX : (En X).ext.get 6 = none) (hX2 : (En X).ext.get 12 = none) (h10 : (En X).ext.get 10 = some (.me (ofM (RK .X 901)) [])) (h11 : (En X).ext.get 11 = some (.me (ofM RSkip) []))
    (h15 : (En X).ext.get 15 = some (.fn (ofG RNum) gsE)) (h20 : (En X).ext.get 20 = some (.fn (ofG RVal) gsE)) (h21 : (En X).ext.get 21 = some (.fn (ofG RBit) [])) (h22 : (En X).ext.get 22 = some (.fn (ofG RTwo) []))
    {l : List UInt8} (h900 : l.length ≤ 900) {t : Tr} {l' : List UInt8} {b' : Bool} (hp : Ps .X l false t l' b') {d : D} {vs : List (List UInt8 × List UInt8)} (hv : IsV d vs) (ho : okVs vs) (s : St) (hg : rowsAre s.h.get gsE = true) (hgn : ∀ p ∈ gsE, p.1 < s.nx)
    (K : V → St → Prop) (hK : ∀ s', K (pvE (evalF vs t l' b')).toV s') : goC (En X) 6 [.c (.str (Str.ofL l)), .c d.toC] s K := by
  refine goC_body hX (kp6 X) (fn6 X) rfl (by kernel_rfl) ?_
  have hres : Tryd.f6.results.toList = [.tmp 4, .tmp 5] := rfl
  have r1 := LRow.new s (cellsD (prD l false))
  have n1 : (s.new (.row (mkRow (cellsD (prD l false))))).nx = s.nx + 1 := St.new_nx _ _
  have f1 : ∀ y, y < s.nx → (s.new (.row (mkRow (cellsD (prD l false))))).h.get y = s.h.get y := fun y hy => new_old s _ hy
  have hrow : Blk.row (mkRow [C.str (Str.ofL l), .bool false]) = .row (mkRow (cellsD (prD l false))) := rfl
  simp only [zEV, Nat.reduceShiftRight, Nat.reduceMod, Nat.reduceEqDiff, Nat.reduceAdd, ↓reduceIte, reduceCtorEq, partsOf_cons, partsOf_nil, rBuild_eq', bu36_0, hrow]
  generalize s.new (.row (mkRow (cellsD (prD l false)))) = s1 at r1 n1 f1 ⊢
  obtain ⟨s2, hc2, r2, n2, f2⟩ := callR_K h10 (by omega) hp r1
  refine go_call _ _ _ _ _ _ (ws := [.c (.ptr s.nx 0)]) rfl (by simp only [zEA, Nat.reduceShiftRight, Nat.reduceMod, Nat.reduceEqDiff, Nat.reduceAdd, ↓reduceIte, reduceCtorEq, argsOf_cons, argsOf_nil]) ?_
  refine goC_of hc2 ?_
  obtain ⟨s3, hc3, r3, n3, f3⟩ := callR_skip h11 r2
  simp only [zEV, Nat.reduceShiftRight, Nat.reduceMod, Nat.reduceEqDiff, Nat.reduceAdd, ↓reduceIte, reduceCtorEq]
  refine go_call _ _ _ _ _ _ (ws := [.c (.ptr s.nx 0)]) rfl (by simp only [zEA, Nat.reduceShiftRight, Nat.reduceMod, Nat.reduceEqDiff, Nat.reduceAdd, ↓reduceIte, reduceCtorEq, argsOf_cons, argsOf_nil]) ?_
  refine goC_of hc3 ?_
  have c0 := pr0 r3
  have c1 := pr1 r3
  have hg3 : rowsAre s3.h.get gsE = true := rows_congr (fun p hp => by have := hgn p hp; rw [f3 _ (by omega), f2 _ (by omega), f1 _ this]) hg
  cases hb : b' with
  | true =>
    subst hb
    rw [show evalF vs t l' true = (0, 2) by unfold evalF; rw [if_pos (.inl rfl)]] at hK
    simp only [zEV, Nat.reduceShiftRight, Nat.reduceMod, Nat.reduceEqDiff, Nat.reduceAdd, ↓reduceIte, reduceCtorEq, rNil_eq, fA_36_0, fA_36_1, ldh4, ldh9, c1, hres]
    exact hK _
  | false =>
    subst hb
    by_cases hz : dropBl l' = []
    · have e1 : (dropBl l' == ([] : List UInt8)) = true := by rw [hz]; rfl
      have hcond : ¬ (false = true ∨ dropBl l' ≠ []) := fun h => h.elim (by simp) (fun h => h hz)
      simp only [zEV, Nat.reduceShiftRight, Nat.reduceMod, Nat.reduceEqDiff, Nat.reduceAdd, ↓reduceIte, reduceCtorEq, rNil_eq, fA_36_0, fA_36_1, ldh4, ldh9, c0, c1, lit_0, e1]
      refine go_call _ _ _ _ _ _ (ws := [.c (dT t).toC, .c d.toC]) rfl (by simp only [zEA, Nat.reduceShiftRight, Nat.reduceMod, Nat.reduceEqDiff, Nat.reduceAdd, ↓reduceIte, reduceCtorEq, argsOf_cons, argsOf_nil]) ?_
      refine eval12 X hX2 h15 h20 h21 h22 hv ho s3 hg3 t (hp.wf (by omega) trivial) _ ?_
      rw [toV_pvP]
      unfold evalF at hK
      rw [if_neg hcond] at hK
      cases hk : (evF vs t).2 with
      | true =>
        rw [if_pos hk] at hK
        simp only [zEV, Nat.reduceShiftRight, Nat.reduceMod, Nat.reduceEqDiff, Nat.reduceAdd, ↓reduceIte, reduceCtorEq, hk, hres]
        exact hK _
      | false =>
        rw [if_neg (by rw [hk]; simp)] at hK
        simp only [zEV, Nat.reduceShiftRight, Nat.reduceMod, Nat.reduceEqDiff, Nat.reduceAdd, ↓reduceIte, reduceCtorEq, hk, hres]
        exact hK _
    · have e1 : (dropBl l' == ([] : List UInt8)) = false := by simpa using hz
      rw [show evalF vs t l' false = (0, 2) by unfold evalF; rw [if_pos (.inr hz)]] at hK
      simp only [zEV, Nat.reduceShiftRight, Nat.reduceMod, Nat.reduceEqDiff, Nat.reduceAdd, ↓reduceIte, reduceCtorEq, rNil_eq, fA_36_0, fA_36_1, ldh4, ldh9, c0, c1, lit_0, e1, hres]
      exact hK _
def REv (ps : List PW) (v : PV) : Prop := ∃ l d vs t l' b', ps = [.c (.str (Str.ofL l)), .c d] ∧ l.length ≤ 900 ∧ Ps .X l false t l' b' ∧ IsV d vs ∧ okVs vs ∧ v = pvE (evalF vs t l' b')
theorem rev_u {l : List UInt8} {d : D} {vs : List (List UInt8 × List UInt8)} {t : Tr} {l' : List UInt8} {b' : Bool} (hp : Ps .X l false t l' b') (hv : IsV d vs) {v : PV} (h : REv [.c (.str (Str.ofL l)), .c d] v) : v = pvE (evalF vs t l' b') := by
  obtain ⟨m, d2, vs2, t2, m', c', h1, _, hp2, hv2, _, rfl⟩ := h
  simp only [List.cons.injEq, PW.c.injEq, D.str.injEq, and_true] at h1
  obtain ⟨h1, rfl⟩ := h1
  obtain rfl := ofL_inj h1
  obtain ⟨rfl, rfl, rfl⟩ := hp.det hp2
  rw [isV_u hv hv2]
noncomputable def e6 : Nat × Ext := (6, .fn (ofG REv) gsE)
noncomputable def exts6 : List (Nat × Ext) := [e10, e11, e4, e20, e21, e22]
theorem oks6 : Oks exts6 := ok1 c10 (ok1 c11 (ok1 c4 (ok1 c20 (ok1 c21 (ok1 c22 ok0)))))
theorem c6 : Ok e6 := fn_of_go_g (exts := exts6) oks6 rfl gsE gsE_ok _ (by
  rintro ps pv ⟨l, d, vs, t, l', b', rfl, hl, hp, hv, ho, rfl⟩
  exact Eval6 _ rfl rfl rfl rfl rfl rfl rfl rfl hl hp hv ho _ (by kernel_rfl) (by decide) _ fun s' => ⟨[], rfl⟩)
end Ar
