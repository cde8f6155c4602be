import Derived.Test.YtaapmoclinjefaaDoorArL
import Derived.Test.YtaapmoclinjefaaDoorEwL
namespace Ar
open Go Go.Proofs Ev Go.Lib Nu
set_option linter.unusedVariables false
set_option linter.unusedSimpArgs false
set_option linter.unnecessarySimpa false
set_option maxRecDepth 100000
theorem lit_bang : Str.of { data := #[33] } = Str.ofL [33] := of_lit [33]
theorem lit_par : Str.of { data := #[40] } = Str.ofL [40] := of_lit [40]
theorem lit_rap : Str.of { data := #[41] } = Str.ofL [41] := of_lit [41]
theorem bu52_02 (X : T Ext) (x y : C) : build (En X) 52 [(0, .c x), (2, .c y)] = some (.agg [x, .str (Str.ofL []), y]) := by kernel_rfl
theorem bu52_01 (X : T Ext) (x y : C) : build (En X) 52 [(0, .c x), (1, .c y)] = some (.agg [x, y, .nils]) := by kernel_rfl
theorem rBuild_eq' (E : Env) (a : A) (t : Nat) (ps : List (Nat × Operand)) : rBuild E a t ps = match partsOf a ps with
  | some l => retW (build E t l)
  | none => none := rfl
theorem takeF_mem : ∀ (sg : List (List UInt8)) (l : List UInt8), (takeF sg l).1 = [] ∨ (takeF sg l).1 ∈ sg
  | [], l => .inl rfl
  | x :: xs, l => by
    unfold takeF
    split
    · exact .inr (List.mem_cons_self ..)
    · rcases takeF_mem xs l with h | h
      · exact .inl h
      · exact .inr (List.mem_cons_of_mem _ h)
theorem tw_take (p : Nat → Bool) : ∀ l : List UInt8, l.take (tw p l).length = tw p l
  | [] => rfl
  | c :: l => by
    have := tw_take p l
    unfold tw at this ⊢
    rw [List.takeWhile_cons]
    split
    · simp [this]
    · rfl
theorem tw_all (p : Nat → Bool) : ∀ l : List UInt8, ∀ c ∈ tw p l, p c.toNat = true
  | [], c, h => by cases h
  | a :: l, c, h => by
    unfold tw at h
    rw [List.takeWhile_cons] at h
    split at h
    · rename_i ha
      rcases List.mem_cons.1 h with rfl | h
      · exact ha
      · exact tw_all p l c h
    · cases h
theorem callR_tk {X : T Ext} (h18 : (En X).ext.get 18 = some (.me (ofM RTake) [])) (ls : List (List UInt8)) (hls : ls.length ≤ 1000) {l : List UInt8} {bd : Bool} {b q : Nat} {s : St} (hr : LRow s b (cellsD (prD l bd))) (hq : LRow s q (ls.map fun x => C.str (Str.ofL x))) (hne : q ≠ b) :
    ∃ s2, CallR (En X) 18 [.c (.ptr b 0), .c (.sl q 0 ls.length (some ls.length) 1)] s (.w (.c (.str (Str.ofL (tk ls l).1)))) s2 ∧ LRow s2 b (cellsD (prD (tk ls l).2 bd)) ∧ s2.nx = s.nx ∧ ∀ x, x ≠ b → x ≠ q → s2.h.get x = s.h.get x := callR_take h18 hls hr hq hne rfl
theorem node_un {s : St} {b : Nat} {x : List C} (hb : b < s.nx) (hr : LRow s b x) {c : C} {u : Tr} {m : Nat} (h : HasT s b m c u) (op : List UInt8) : HasT ((s.new (.row (mkRow [c]))).new (.row (mkRow [.str (Str.ofL op), .str (Str.ofL []), .sl s.nx 0 1 (some 1) 1]))) b (m + 2) (.ptr (s.new (.row (mkRow [c]))).nx 0) (.un op u) ∧ LRow ((s.new (.row (mkRow [c]))).new (.row (mkRow [.str (Str.ofL op), .str (Str.ofL []), .sl s.nx 0 1 (some 1) 1]))) b x := by
  have q := LRow.new s [c]
  have n1 : (s.new (.row (mkRow [c]))).nx = s.nx + 1 := St.new_nx _ _
  have r1 := hr.keep (new_old s (.row (mkRow [c])) hb)
  have h1 : HasT (s.new (.row (mkRow [c]))) b m c u := h.keep (by omega) fun x _ hx => new_old s _ hx
  generalize s.new (.row (mkRow [c])) = s1 at *
  have q2 := LRow.new s1 [.str (Str.ofL op), .str (Str.ofL []), .sl s.nx 0 1 (some 1) 1]
  have n2 : (s1.new (.row (mkRow [.str (Str.ofL op), .str (Str.ofL []), .sl s.nx 0 1 (some 1) 1]))).nx = s1.nx + 1 := St.new_nx _ _
  have q1 := q.keep (new_old s1 (.row (mkRow [.str (Str.ofL op), .str (Str.ofL []), .sl s.nx 0 1 (some 1) 1])) (by omega))
  have r2 := r1.keep (new_old s1 (.row (mkRow [.str (Str.ofL op), .str (Str.ofL []), .sl s.nx 0 1 (some 1) 1])) (by omega))
  have h2 : HasT (s1.new (.row (mkRow [.str (Str.ofL op), .str (Str.ofL []), .sl s.nx 0 1 (some 1) 1]))) b m c u := h1.keep (by omega) fun x _ hx => new_old s1 _ hx
  exact ⟨h2.un q1 q2 (by omega) (by omega) (by omega) (by omega), r2⟩
theorem node_bin {s : St} {b : Nat} {x : List C} (hb : b < s.nx) (hr : LRow s b x) {c d : C} {u v : Tr} {m : Nat} (h : HasT s b m c u) (hd : HasT s b m d v) (op : List UInt8) : HasT ((s.new (.row (mkRow [c, d]))).new (.row (mkRow [.str (Str.ofL op), .str (Str.ofL []), .sl s.nx 0 2 (some 2) 1]))) b (m + 2) (.ptr (s.new (.row (mkRow [c, d]))).nx 0) (.bin op u v) ∧ LRow ((s.new (.row (mkRow [c, d]))).new (.row (mkRow [.str (Str.ofL op), .str (Str.ofL []), .sl s.nx 0 2 (some 2) 1]))) b x := by
  have q := LRow.new s [c, d]
  have n1 : (s.new (.row (mkRow [c, d]))).nx = s.nx + 1 := St.new_nx _ _
  have r1 := hr.keep (new_old s (.row (mkRow [c, d])) hb)
  have h1 : HasT (s.new (.row (mkRow [c, d]))) b m c u := h.keep (by omega) fun x _ hx => new_old s _ hx
  have d1 : HasT (s.new (.row (mkRow [c, d]))) b m d v := hd.keep (by omega) fun x _ hx => new_old s _ hx
  generalize s.new (.row (mkRow [c, d])) = s1 at *
  have q2 := LRow.new s1 [.str (Str.ofL op), .str (Str.ofL []), .sl s.nx 0 2 (some 2) 1]
  have n2 : (s1.new (.row (mkRow [.str (Str.ofL op), .str (Str.ofL []), .sl s.nx 0 2 (some 2) 1]))).nx = s1.nx + 1 := St.new_nx _ _
  have q1 := q.keep (new_old s1 (.row (mkRow [.str (Str.ofL op), .str (Str.ofL []), .sl s.nx 0 2 (some 2) 1])) (by omega))
  have r2 := r1.keep (new_old s1 (.row (mkRow [.str (Str.ofL op), .str (Str.ofL []), .sl s.nx 0 2 (some 2) 1])) (by omega))
  have h2 : HasT (s1.new (.row (mkRow [.str (Str.ofL op), .str (Str.ofL []), .sl s.nx 0 2 (some 2) 1]))) b m c u := h1.keep (by omega) fun x _ hx => new_old s1 _ hx
  have d2 : HasT (s1.new (.row (mkRow [.str (Str.ofL op), .str (Str.ofL []), .sl s.nx 0 2 (some 2) 1]))) b m d v := d1.keep (by omega) fun x _ hx => new_old s1 _ hx
  exact ⟨h2.bin d2 q1 q2 (by omega) (by omega) (by omega) (by omega), r2⟩
theorem node_leaf {s : St} {b : Nat} {x : List C} (hb : b < s.nx) (hr : LRow s b x) {t : Tr} {op tx : List UInt8} (ht : dT t = .pt [.str (Str.ofL op), .str (Str.ofL tx), .nils] 0) : HasT (s.new (.row (mkRow [.str (Str.ofL op), .str (Str.ofL tx), .nils]))) b 2 (.ptr s.nx 0) t ∧ LRow (s.new (.row (mkRow [.str (Str.ofL op), .str (Str.ofL tx), .nils]))) b x := by
  have q := LRow.new s [.str (Str.ofL op), .str (Str.ofL tx), .nils]
  have n1 : (s.new (.row (mkRow [.str (Str.ofL op), .str (Str.ofL tx), .nils]))).nx = s.nx + 1 := St.new_nx _ _
  exact ⟨HasT.leaf ht q hb (by omega), hr.keep (new_old s _ hb)⟩
theorem unary45 (X : T Ext) {n : Nat} (h45 : (En X).ext.get 45 = some (.me (ofM (RK .U n)) [])) (h10 : (En X).ext.get 10 = some (.me (ofM (RK .X n)) [])) (h18 : (En X).ext.get 18 = some (.me (ofM RTake) [])) (h58 : (En X).ext.get 58 = some (.fn (ofG RRun) [])) (h60 : (En X).ext.get 60 = some (.me (ofM RCut) []))
    (h63 : (En X).ext.get 63 = some (.fn (ofG RName) [])) {l : List UInt8} {bd : Bool} {t : Tr} {l' : List UInt8} {b' : Bool} (hl : l.length ≤ n) (h900 : l.length ≤ 900) (hp : Ps .U l bd t l' b') {b : Nat} {s : St} (hb : b < s.nx) (hr : LRow s b (cellsD (prD l bd)))
    (hno : extF (.me (ofM (RK .U n)) []) [.c (.ptr b 0)] s = .no) (K : V → St → Prop) (hK : ∀ c s', HasT s' b 4 c t → LRow s' b (cellsD (prD l' b')) → K (vc c) s') : goC (En X) 45 [.c (.ptr b 0)] s K := by
  refine goC_bodyN (fun x hx => by rw [h45] at hx; cases hx; exact hno) (kp45 X) (fn45 X) rfl (by kernel_rfl) ?_
  have hres : Tryd.f45.results.toList = [.tmp 2] := rfl
  have q0 := LRow.new s (sgU.map fun x => C.str (Str.ofL x))
  have r0 := hr.keep (new_old s (.row (mkRow (sgU.map fun x => C.str (Str.ofL x)))) hb)
  have n0 : (s.new (.row (mkRow (sgU.map fun x => C.str (Str.ofL x))))).nx = s.nx + 1 := St.new_nx _ _
  have hrow : Blk.row (mkRow [C.str (Str.ofL [45]), C.str (Str.ofL [33]), C.str (Str.ofL [40])]) = .row (mkRow (sgU.map fun x => C.str (Str.ofL x))) := rfl
  simp only [zEV, Nat.reduceShiftRight, Nat.reduceMod, Nat.reduceEqDiff, Nat.reduceAdd, ↓reduceIte, reduceCtorEq, nBuildSlice_eq, partsOf_cons, partsOf_nil, lit_minus, lit_bang, lit_par, bS66_3, hrow]
  generalize s.new (.row (mkRow (sgU.map fun x => C.str (Str.ofL x)))) = s1 at q0 r0 n0 ⊢
  obtain ⟨s2, hc, r2, n2, f2⟩ := callR_tk h18 sgU (by decide) r0 q0 (by omega)
  refine go_call _ _ _ _ _ _ (ws := [.c (.ptr b 0), .c (.sl s.nx 0 3 (some 3) 1)]) rfl (by simp only [zEA, Nat.reduceShiftRight, Nat.reduceMod, Nat.reduceEqDiff, Nat.reduceAdd, ↓reduceIte, reduceCtorEq, argsOf_cons, argsOf_nil]) ?_
  refine goC_of hc ?_
  have hmem := takeF_mem sgU (dropBl l)
  have hlt := fun h => tk_lt (sg := sgU) (l := l) h
  have hle := tk_le2 sgU l
  have hb2 : b < s2.nx := by omega
  clear hc q0 r0 f2
  cases hp with
  | @sign _ _ u _ _ h1 h2 hp' =>
    have hlt := hlt h1
    have hop : (tk sgU l).1 = [45] ∨ (tk sgU l).1 = [33] := by
      rcases hmem with h | h
      · exact absurd h h1
      · have h : (tk sgU l).1 ∈ ([[45], [33], [40]] : List (List UInt8)) := h
        simp only [List.mem_cons, List.not_mem_nil, or_false] at h
        rcases h with h | h | h
        · exact .inl h
        · exact .inr h
        · exact absurd h h2
    generalize hk : tk sgU l = r at *
    obtain ⟨s3, hc3, r3, n3, f3⟩ := callR_K h45 (by omega) hp' r2
    obtain ⟨hT, hR⟩ := node_un (by omega) r3 (HasT.data s3 b u) r.1
    have hfin := hK _ _ (hT.mono (by omega)) hR
    have hne : (r.1 == ([40] : List UInt8)) = false := by simpa using h2
    rcases hop with hop | hop
    · have e1 : (r.1 == ([45] : List UInt8)) = true := by rw [hop]; rfl
      simp only [zEV, Nat.reduceShiftRight, Nat.reduceMod, Nat.reduceEqDiff, Nat.reduceAdd, ↓reduceIte, reduceCtorEq, lit_minus, lit_bang, e1]
      refine go_call _ _ _ _ _ _ (ws := [.c (.ptr b 0)]) rfl (by simp only [zEA, Nat.reduceShiftRight, Nat.reduceMod, Nat.reduceEqDiff, Nat.reduceAdd, ↓reduceIte, reduceCtorEq, argsOf_cons, argsOf_nil]) ?_
      refine goC_of hc3 ?_
      simp only [zEV, Nat.reduceShiftRight, Nat.reduceMod, Nat.reduceEqDiff, Nat.reduceAdd, ↓reduceIte, reduceCtorEq, nBuildSlice_eq, partsOf_cons, partsOf_nil, bS50_1, rBuild_eq', bu52_02, hres]
      exact hfin
    · have e1 : (r.1 == ([45] : List UInt8)) = false := by rw [hop]; rfl
      have e2 : (r.1 == ([33] : List UInt8)) = true := by rw [hop]; rfl
      simp only [zEV, Nat.reduceShiftRight, Nat.reduceMod, Nat.reduceEqDiff, Nat.reduceAdd, ↓reduceIte, reduceCtorEq, lit_minus, lit_bang, e1, e2]
      refine go_call _ _ _ _ _ _ (ws := [.c (.ptr b 0)]) rfl (by simp only [zEA, Nat.reduceShiftRight, Nat.reduceMod, Nat.reduceEqDiff, Nat.reduceAdd, ↓reduceIte, reduceCtorEq, argsOf_cons, argsOf_nil]) ?_
      refine goC_of hc3 ?_
      simp only [zEV, Nat.reduceShiftRight, Nat.reduceMod, Nat.reduceEqDiff, Nat.reduceAdd, ↓reduceIte, reduceCtorEq, nBuildSlice_eq, partsOf_cons, partsOf_nil, bS50_1, rBuild_eq', bu52_02, hres]
      exact hfin
  | @par _ _ _ l1 b1 h1 hp' =>
    have hlt := hlt (by rw [h1]; simp)
    generalize hk : tk sgU l = r at *
    have e1 : (r.1 == ([45] : List UInt8)) = false := by rw [h1]; rfl
    have e2 : (r.1 == ([33] : List UInt8)) = false := by rw [h1]; rfl
    have e3 : (r.1 == ([40] : List UInt8)) = true := by rw [h1]; rfl
    obtain ⟨s3, hc3, r3, n3, f3⟩ := callR_K h10 (by omega) hp' r2
    simp only [zEV, Nat.reduceShiftRight, Nat.reduceMod, Nat.reduceEqDiff, Nat.reduceAdd, ↓reduceIte, reduceCtorEq, lit_minus, lit_bang, lit_par, e1, e2, e3]
    refine go_call _ _ _ _ _ _ (ws := [.c (.ptr b 0)]) rfl (by simp only [zEA, Nat.reduceShiftRight, Nat.reduceMod, Nat.reduceEqDiff, Nat.reduceAdd, ↓reduceIte, reduceCtorEq, argsOf_cons, argsOf_nil]) ?_
    refine goC_of hc3 ?_
    have q3 := LRow.new s3 (sgC.map fun x => C.str (Str.ofL x))
    have r4 := r3.keep (new_old s3 (.row (mkRow (sgC.map fun x => C.str (Str.ofL x)))) (by omega))
    have n4 : (s3.new (.row (mkRow (sgC.map fun x => C.str (Str.ofL x))))).nx = s3.nx + 1 := St.new_nx _ _
    have hrow : Blk.row (mkRow [C.str (Str.ofL [41])]) = .row (mkRow (sgC.map fun x => C.str (Str.ofL x))) := rfl
    simp only [zEV, Nat.reduceShiftRight, Nat.reduceMod, Nat.reduceEqDiff, Nat.reduceAdd, ↓reduceIte, reduceCtorEq, nBuildSlice_eq, partsOf_cons, partsOf_nil, lit_rap, bS66_1, hrow]
    generalize s3.new (.row (mkRow (sgC.map fun x => C.str (Str.ofL x)))) = s4 at q3 r4 n4 ⊢
    obtain ⟨s5, hc5, r5, n5, f5⟩ := callR_tk h18 sgC (by decide) r4 q3 (by omega)
    refine go_call _ _ _ _ _ _ (ws := [.c (.ptr b 0), .c (.sl s3.nx 0 1 (some 1) 1)]) rfl (by simp only [zEA, Nat.reduceShiftRight, Nat.reduceMod, Nat.reduceEqDiff, Nat.reduceAdd, ↓reduceIte, reduceCtorEq, argsOf_cons, argsOf_nil]) ?_
    refine goC_of hc5 ?_
    cases he : ((tk sgC l1).1 == ([] : List UInt8)) with
    | true =>
      rw [he, Bool.or_true] at hK
      obtain ⟨s6, w6, r6, n6, f6⟩ := pr_set1 r5 true
      have hl1 : ([.bool true] : List C).length = 1 := rfl
      simp only [zEV, Nat.reduceShiftRight, Nat.reduceMod, Nat.reduceEqDiff, Nat.reduceAdd, ↓reduceIte, reduceCtorEq, lit_0, he, rNil_eq, fA_36_1, st4, hl1, w6, hres]
      exact hK _ _ ((HasT.data _ b t).mono (by omega)) r6
    | false =>
      rw [he, Bool.or_false] at hK
      simp only [zEV, Nat.reduceShiftRight, Nat.reduceMod, Nat.reduceEqDiff, Nat.reduceAdd, ↓reduceIte, reduceCtorEq, lit_0, he, hres]
      exact hK _ _ ((HasT.data _ b t).mono (by omega)) r5
  | dig h1 h2 =>
    generalize hk : tk sgU l = r at *
    have e1 : (r.1 == ([45] : List UInt8)) = false := by rw [h1]; rfl
    have e2 : (r.1 == ([33] : List UInt8)) = false := by rw [h1]; rfl
    have e3 : (r.1 == ([40] : List UInt8)) = false := by rw [h1]; rfl
    have c0 := pr0 r2
    simp only [zEV, Nat.reduceShiftRight, Nat.reduceMod, Nat.reduceEqDiff, Nat.reduceAdd, ↓reduceIte, reduceCtorEq, lit_minus, lit_bang, lit_par, e1, e2, e3, rNil_eq, fA_36_0, ldh9, c0]
    refine go_call _ _ _ _ _ _ (ws := [.c (.str (Str.ofL r.2)), .c (.fn 59 [])]) rfl (by simp only [zEA, Nat.reduceShiftRight, Nat.reduceMod, Nat.reduceEqDiff, Nat.reduceAdd, ↓reduceIte, reduceCtorEq, argsOf_cons, argsOf_nil]; rfl) ?_
    refine goC_of (callR_runD h58 r.2 (by omega) _) ?_
    have hpos : (0 < Int.ofNat (tw digN r.2).length) = True := eq_true (Int.natCast_pos.2 (List.length_pos_iff.2 h2))
    have hml := tw_le digN r.2
    simp only [zEV, Nat.reduceShiftRight, Nat.reduceMod, Nat.reduceEqDiff, Nat.reduceAdd, ↓reduceIte, reduceCtorEq, hpos]
    obtain ⟨s3, hc3, r3, n3, f3⟩ := callR_cut h60 hml r2
    rw [tw_take] at hc3
    refine go_call _ _ _ _ _ _ (ws := [.c (.ptr b 0), .c (.int .i64 (Int.ofNat (tw digN r.2).length))]) rfl (by simp only [zEA, Nat.reduceShiftRight, Nat.reduceMod, Nat.reduceEqDiff, Nat.reduceAdd, ↓reduceIte, reduceCtorEq, argsOf_cons, argsOf_nil]) ?_
    refine goC_of hc3 ?_
    obtain ⟨hT, hR⟩ := node_leaf (t := .dig (tw digN r.2)) (by omega) r3 (show dT (.dig (tw digN r.2)) = .pt [.str (Str.ofL sDig), .str (Str.ofL (tw digN r.2)), .nils] 0 by rw [dT])
    simp only [zEV, Nat.reduceShiftRight, Nat.reduceMod, Nat.reduceEqDiff, Nat.reduceAdd, ↓reduceIte, reduceCtorEq, partsOf_cons, partsOf_nil, lit_dig, rBuild_eq', bu52_01, hres]
    exact hK _ _ (hT.mono (by omega)) hR
  | nam h1 h2 h3 =>
    generalize hk : tk sgU l = r at *
    have e1 : (r.1 == ([45] : List UInt8)) = false := by rw [h1]; rfl
    have e2 : (r.1 == ([33] : List UInt8)) = false := by rw [h1]; rfl
    have e3 : (r.1 == ([40] : List UInt8)) = false := by rw [h1]; rfl
    have c0 := pr0 r2
    simp only [zEV, Nat.reduceShiftRight, Nat.reduceMod, Nat.reduceEqDiff, Nat.reduceAdd, ↓reduceIte, reduceCtorEq, lit_minus, lit_bang, lit_par, e1, e2, e3, rNil_eq, fA_36_0, ldh9, c0]
    refine go_call _ _ _ _ _ _ (ws := [.c (.str (Str.ofL r.2)), .c (.fn 59 [])]) rfl (by simp only [zEA, Nat.reduceShiftRight, Nat.reduceMod, Nat.reduceEqDiff, Nat.reduceAdd, ↓reduceIte, reduceCtorEq, argsOf_cons, argsOf_nil]; rfl) ?_
    refine goC_of (callR_runD h58 r.2 (by omega) _) ?_
    have hz : (tw digN r.2).length = 0 := by rw [h2]; rfl
    have hpos : (0 < Int.ofNat 0) = False := eq_false (by decide)
    simp only [zEV, Nat.reduceShiftRight, Nat.reduceMod, Nat.reduceEqDiff, Nat.reduceAdd, ↓reduceIte, reduceCtorEq, hz, hpos, rNil_eq, fA_36_0, ldh9, c0]
    refine go_call _ _ _ _ _ _ (ws := [.c (.str (Str.ofL r.2)), .c (.fn 61 [])]) rfl (by simp only [zEA, Nat.reduceShiftRight, Nat.reduceMod, Nat.reduceEqDiff, Nat.reduceAdd, ↓reduceIte, reduceCtorEq, argsOf_cons, argsOf_nil]; rfl) ?_
    refine goC_of (callR_runM h58 r.2 (by omega) _) ?_
    simp only [zEV, Nat.reduceShiftRight, Nat.reduceMod, Nat.reduceEqDiff, Nat.reduceAdd, ↓reduceIte, reduceCtorEq]
    have hml := tw_le moreN r.2
    obtain ⟨s3, hc3, r3, n3, f3⟩ := callR_cut h60 hml r2
    rw [tw_take] at hc3
    refine go_call _ _ _ _ _ _ (ws := [.c (.ptr b 0), .c (.int .i64 (Int.ofNat (tw moreN r.2).length))]) rfl (by simp only [zEA, Nat.reduceShiftRight, Nat.reduceMod, Nat.reduceEqDiff, Nat.reduceAdd, ↓reduceIte, reduceCtorEq, argsOf_cons, argsOf_nil]) ?_
    refine goC_of hc3 ?_
    simp only [zEV, Nat.reduceShiftRight, Nat.reduceMod, Nat.reduceEqDiff, Nat.reduceAdd, ↓reduceIte, reduceCtorEq, partsOf_cons, partsOf_nil, lit_nam, rBuild_eq', bu52_01]
    obtain ⟨hT, hR⟩ := node_leaf (t := .nam (tw moreN r.2)) (by omega) r3 (show dT (.nam (tw moreN r.2)) = .pt [.str (Str.ofL sNam), .str (Str.ofL (tw moreN r.2)), .nils] 0 by rw [dT])
    have q4 := LRow.new s3 [C.str (Str.ofL sNam), .str (Str.ofL (tw moreN r.2)), .nils]
    have n4 : (s3.new (.row (mkRow [C.str (Str.ofL sNam), .str (Str.ofL (tw moreN r.2)), .nils]))).nx = s3.nx + 1 := St.new_nx _ _
    generalize s3.new (.row (mkRow [C.str (Str.ofL sNam), .str (Str.ofL (tw moreN r.2)), .nils])) = s4 at hT hR q4 n4 ⊢
    have c4 : ldHC s4.h.get s3.nx 1 = some (.c (.str (Str.ofL (tw moreN r.2)))) := q4.ldC rfl
    simp only [zEV, Nat.reduceShiftRight, Nat.reduceMod, Nat.reduceEqDiff, Nat.reduceAdd, ↓reduceIte, reduceCtorEq, rNil_eq, fA_52_1, ldh9, c4]
    refine go_call _ _ _ _ _ _ (ws := [.c (.str (Str.ofL (tw moreN r.2)))]) rfl (by simp only [zEA, Nat.reduceShiftRight, Nat.reduceMod, Nat.reduceEqDiff, Nat.reduceAdd, ↓reduceIte, reduceCtorEq, argsOf_cons, argsOf_nil]) ?_
    refine goC_of (callR_name h63 (fun c hc => tw_all moreN r.2 c hc) (by omega) _) ?_
    simp only [zEV, Nat.reduceShiftRight, Nat.reduceMod, Nat.reduceEqDiff, Nat.reduceAdd, ↓reduceIte, reduceCtorEq, h3, hres]
    exact hK _ _ (hT.mono (by omega)) hR
  | namx h1 h2 h3 =>
    generalize hk : tk sgU l = r at *
    have e1 : (r.1 == ([45] : List UInt8)) = false := by rw [h1]; rfl
    have e2 : (r.1 == ([33] : List UInt8)) = false := by rw [h1]; rfl
    have e3 : (r.1 == ([40] : List UInt8)) = false := by rw [h1]; rfl
    have c0 := pr0 r2
    simp only [zEV, Nat.reduceShiftRight, Nat.reduceMod, Nat.reduceEqDiff, Nat.reduceAdd, ↓reduceIte, reduceCtorEq, lit_minus, lit_bang, lit_par, e1, e2, e3, rNil_eq, fA_36_0, ldh9, c0]
    refine go_call _ _ _ _ _ _ (ws := [.c (.str (Str.ofL r.2)), .c (.fn 59 [])]) rfl (by simp only [zEA, Nat.reduceShiftRight, Nat.reduceMod, Nat.reduceEqDiff, Nat.reduceAdd, ↓reduceIte, reduceCtorEq, argsOf_cons, argsOf_nil]; rfl) ?_
    refine goC_of (callR_runD h58 r.2 (by omega) _) ?_
    have hz : (tw digN r.2).length = 0 := by rw [h2]; rfl
    have hpos : (0 < Int.ofNat 0) = False := eq_false (by decide)
    simp only [zEV, Nat.reduceShiftRight, Nat.reduceMod, Nat.reduceEqDiff, Nat.reduceAdd, ↓reduceIte, reduceCtorEq, hz, hpos, rNil_eq, fA_36_0, ldh9, c0]
    refine go_call _ _ _ _ _ _ (ws := [.c (.str (Str.ofL r.2)), .c (.fn 61 [])]) rfl (by simp only [zEA, Nat.reduceShiftRight, Nat.reduceMod, Nat.reduceEqDiff, Nat.reduceAdd, ↓reduceIte, reduceCtorEq, argsOf_cons, argsOf_nil]; rfl) ?_
    refine goC_of (callR_runM h58 r.2 (by omega) _) ?_
    simp only [zEV, Nat.reduceShiftRight, Nat.reduceMod, Nat.reduceEqDiff, Nat.reduceAdd, ↓reduceIte, reduceCtorEq]
    have hml := tw_le moreN r.2
    obtain ⟨s3, hc3, r3, n3, f3⟩ := callR_cut h60 hml r2
    rw [tw_take] at hc3
    refine go_call _ _ _ _ _ _ (ws := [.c (.ptr b 0), .c (.int .i64 (Int.ofNat (tw moreN r.2).length))]) rfl (by simp only [zEA, Nat.reduceShiftRight, Nat.reduceMod, Nat.reduceEqDiff, Nat.reduceAdd, ↓reduceIte, reduceCtorEq, argsOf_cons, argsOf_nil]) ?_
    refine goC_of hc3 ?_
    simp only [zEV, Nat.reduceShiftRight, Nat.reduceMod, Nat.reduceEqDiff, Nat.reduceAdd, ↓reduceIte, reduceCtorEq, partsOf_cons, partsOf_nil, lit_nam, rBuild_eq', bu52_01]
    obtain ⟨hT, hR⟩ := node_leaf (t := .nam (tw moreN r.2)) (by omega) r3 (show dT (.nam (tw moreN r.2)) = .pt [.str (Str.ofL sNam), .str (Str.ofL (tw moreN r.2)), .nils] 0 by rw [dT])
    have q4 := LRow.new s3 [C.str (Str.ofL sNam), .str (Str.ofL (tw moreN r.2)), .nils]
    have n4 : (s3.new (.row (mkRow [C.str (Str.ofL sNam), .str (Str.ofL (tw moreN r.2)), .nils]))).nx = s3.nx + 1 := St.new_nx _ _
    generalize s3.new (.row (mkRow [C.str (Str.ofL sNam), .str (Str.ofL (tw moreN r.2)), .nils])) = s4 at hT hR q4 n4 ⊢
    have c4 : ldHC s4.h.get s3.nx 1 = some (.c (.str (Str.ofL (tw moreN r.2)))) := q4.ldC rfl
    simp only [zEV, Nat.reduceShiftRight, Nat.reduceMod, Nat.reduceEqDiff, Nat.reduceAdd, ↓reduceIte, reduceCtorEq, rNil_eq, fA_52_1, ldh9, c4]
    refine go_call _ _ _ _ _ _ (ws := [.c (.str (Str.ofL (tw moreN r.2)))]) rfl (by simp only [zEA, Nat.reduceShiftRight, Nat.reduceMod, Nat.reduceEqDiff, Nat.reduceAdd, ↓reduceIte, reduceCtorEq, argsOf_cons, argsOf_nil]) ?_
    refine goC_of (callR_name h63 (fun c hc => tw_all moreN r.2 c hc) (by omega) _) ?_
    obtain ⟨s5, w5, r5, n5, f5⟩ := pr_set1 hR true
    obtain ⟨s6, w6, r6, n6, f6⟩ := pr_set0 r5 []
    have hl1 : ([.bool true] : List C).length = 1 := rfl
    have hl2 : ([.str (Str.ofL [])] : List C).length = 1 := rfl
    simp only [zEV, Nat.reduceShiftRight, Nat.reduceMod, Nat.reduceEqDiff, Nat.reduceAdd, ↓reduceIte, reduceCtorEq, h3, rNil_eq, fA_36_0, fA_36_1, st4, st9, hl1, hl2, w5, lit_0, w6, hres]
    exact hK _ _ ((hT.keep (by omega) fun x hx _ => by rw [f6 x (by omega), f5 x (by omega)]).mono (by omega)) r6
end Ar
