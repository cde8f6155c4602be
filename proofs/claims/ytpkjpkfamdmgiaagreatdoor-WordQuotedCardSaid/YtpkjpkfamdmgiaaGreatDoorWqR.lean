import Derived.Test.YtpkjpkfamdmgiaaGreatDoorWqQ
import Derived.Test.YtpkjpkfamdmgiaaGreatDoorEwL
namespace Ws
open Go Go.Proofs Ev Wq
set_option linter.unusedVariables false
set_option linter.unusedSimpArgs false
set_option linter.unnecessarySimpa false
set_option maxRecDepth 100000
theorem lit_xx : Str.of { data := #[120] } = ⟨1, 120⟩ := by kernel_rfl
theorem lit_qx : Str.of { data := #[34, 36, 120, 34] } = txQ true := by kernel_rfl
theorem lit_ux : Str.of { data := #[36, 120] } = txQ false := by kernel_rfl
theorem bu28_0 (X : T Ext) (c : C) : build (En X) 28 [(0, .c c)] = some (.agg [c, .nils, .nils]) := by kernel_rfl
theorem bu23_2 (X : T Ext) (x y : C) : build (En X) 23 [(0, .c x), (1, .c y)] = some (.agg [x, y]) := by kernel_rfl
theorem st9 (X : T Ext) (s : St) (b o : Nat) (w : W) : store (En X) 9 s b o w = if w.cells.length = 1 then writeL s b o w.cells else none := store_of (tab9 X) tis9 s b o w
theorem rows_set {h : T Blk} {p : Nat} {y : Blk} {gs : List (Nat × List C)} (hg : rowsAre h.get gs = true) (hp : ∀ q ∈ gs, q.1 ≠ p) : rowsAre (h.set p y).get gs = true :=
  rows_congr (fun q hq => by rw [T.get_set, if_neg (hp q hq)]) hg
theorem row_set (h : T Blk) (nx p : Nat) (l : List C) : LRow ⟨h.set p (.row (mkRow l)), nx⟩ p l := by
  refine LRow.of_rowB ?_
  rw [T.get_set_same, mkRow_rowB]
theorem row_other {s : St} {b p nx : Nat} {y : Blk} {l : List C} (h : LRow s b l) (hb : b ≠ p) : LRow ⟨s.h.set p y, nx⟩ b l := h.keep (by rw [T.get_set, if_neg hb])
theorem bS36q (X : T Ext) (q : Bool) (id : Nat) : buildSlice (En X) 36 1 [(0, .agg (cellsD (wdQ q)))] id = some (vc (.sl id 0 1 (some 1) 1), .row (mkRow (cellsD (wdQ q)))) := bS36_1 X id _
theorem env_new (s : St) (v : Str) : EnvAt (s.new (.row (mkRow [.str ⟨1, 120⟩, .str v]))) s.nx v := by
  refine .inl ?_
  rw [row_newC, mkRow_eq]; rfl
theorem pvF_toV1 {l : List UInt8} {q : Bool} (h : (TS l q).length ≤ 100) : (PV.tup (pvF l q)).toV = .tup [.c (slD 1 (tsL (TS l q))).toC, .agg (cellsD (envV (Str.ofL l))), .c (.int .i64 0)] := by
  unfold pvF; rw [if_pos h]; rfl
theorem pvF_toV2 {l : List UInt8} {q : Bool} (h : ¬ (TS l q).length ≤ 100) : (PV.tup (pvF l q)).toV = .tup [.c .nils, .agg (cellsD (envV (Str.ofL l))), .c (.int .i64 3)] := by
  unfold pvF; rw [if_neg h]; rfl
theorem pvF_two (v : List UInt8) : ∃ dl er, (PV.tup (pvF v false)).toV = .tup [.c dl, .agg (cellsD (envV (Str.ofL v))), .c (.int .i64 er)] ∧ (((TS v false).length ≤ 100 ∧ dl = (slD 1 (tsL (TS v false))).toC ∧ er = 0) ∨ (100 < (TS v false).length ∧ er = 3)) := by
  by_cases h : (TS v false).length ≤ 100
  · exact ⟨_, _, pvF_toV1 h, .inl ⟨h, rfl, rfl⟩⟩
  · exact ⟨_, _, pvF_toV2 h, .inr ⟨by omega, rfl⟩⟩
theorem same_env (p0 : Nat) : V.same (.w (.agg (envC p0))) (.w (.agg (envC p0))) = true := by
  show sameL [.sl p0 0 1 (some 1) 2, .nils, .nils] [.sl p0 0 1 (some 1) 2, .nils, .nils] = true
  unfold sameL C.same
  simp
  rfl
def mixC (old : List (List UInt8)) (i : Nat) : List C := ((old.take i).map fun w => C.str (textS (charsOf w true))) ++ ((old.drop i).map fun w => C.str (Str.ofL w))
theorem mix_0 (old : List (List UInt8)) : mixC old 0 = wC old := rfl
theorem mix_all (v : List UInt8) : mixC (words v) (words v).length = (TS v false).map C.str := by
  unfold mixC
  rw [List.take_length, List.drop_length, List.map_nil, List.append_nil, TS_u, List.map_map]
  rfl
theorem mix_len (old : List (List UInt8)) (i : Nat) : (mixC old i).length = old.length := by
  unfold mixC
  rw [List.length_append, List.length_map, List.length_map, ← List.length_append, List.take_append_drop]
theorem mix_get {old : List (List UInt8)} {i : Nat} {w : List UInt8} (h : old[i]? = some w) : (mixC old i)[i]? = some (C.str (Str.ofL w)) := by
  have hi := (List.getElem?_eq_some_iff.1 h).1
  have hl : ((old.take i).map fun w => C.str (textS (charsOf w true))).length = i := by rw [List.length_map, List.length_take]; omega
  unfold mixC
  rw [List.getElem?_append_right (by omega), hl, Nat.sub_self, List.getElem?_map, List.getElem?_drop, Nat.add_zero, h]; rfl
theorem mix_set {old : List (List UInt8)} {i : Nat} {w : List UInt8} (h : old[i]? = some w) : (mixC old i).set i (C.str (textS (charsOf w true))) = mixC old (i + 1) := by
  have hi := (List.getElem?_eq_some_iff.1 h).1
  have hl : ((old.take i).map fun w => C.str (textS (charsOf w true))).length = i := by rw [List.length_map, List.length_take]; omega
  have hd : old.drop i = w :: old.drop (i + 1) := by
    rw [List.drop_eq_getElem_cons hi]
    rw [List.getElem?_eq_getElem hi] at h
    cases h; rfl
  unfold mixC
  rw [List.set_append, hl, if_neg (Nat.lt_irrefl _), Nat.sub_self, hd, List.take_add_one, h, List.map_append]
  simp
theorem law3 (X : T Ext) (hX : (En X).ext.get 3 = none) (h5 : (En X).ext.get 5 = some (.fn (ofG RFd) [])) (h6 : (En X).ext.get 6 = some (.fn (ofG RFq) Wk.gs)) (h7 : (En X).ext.get 7 = some (.fn (ofG RTq) [])) (h8 : (En X).ext.get 8 = some (.fn (ofG RT13) [])) (h9 : (En X).ext.get 9 = some (.fn (ofG RC13) gsU)) (h10 : (En X).ext.get 10 = none) (h11 : (En X).ext.get 11 = some (.const (.bool true) Wk.gs)) (h12 : (En X).ext.get 12 = some (.fn (ofG RTx) [])) (h23 : (En X).ext.get 23 = none)
    (v : List UInt8) (s : St) (hg : rowsAre s.h.get Wk.gs = true) (hgn : ∀ p ∈ Wk.gs, p.1 < s.nx) (K : V → St → Prop) (hK : ∀ s', K (vc (.bool true)) s') : goC (En X) 3 [.c (.str (Str.ofL v))] s K := by
  refine goC_body hX (kp3 X) (fn3 X) rfl (by kernel_rfl) ?_
  have hres : Tryz.f3.results.toList = [.tmp 2] := rfl
  have hlen : ∀ look, len (En X) 9 look (.str (Str.ofL v)) = some v.length := fun look => len_ofL (ustr9 X) look v
  by_cases q1 : (300 : Int) < Int.ofNat v.length
  · simp only [zEV, Nat.reduceShiftRight, Nat.reduceMod, Nat.reduceEqDiff, Nat.reduceAdd, ↓reduceIte, reduceCtorEq, hlen, eq_true q1, hres]
    exact hK _
  have h300 : v.length ≤ 300 := by have : ¬ (300 : Int) < ((v.length : Nat) : Int) := q1; omega
  have e1 := env_new s (Str.ofL v)
  have n1 : (s.new (.row (mkRow [.str ⟨1, 120⟩, .str (Str.ofL v)]))).nx = s.nx + 1 := St.new_nx _ _
  have o1 : ∀ x, x < s.nx → (s.new (.row (mkRow [.str ⟨1, 120⟩, .str (Str.ofL v)]))).h.get x = s.h.get x := fun x hx => new_old s _ hx
  simp only [zEV, Nat.reduceShiftRight, Nat.reduceMod, Nat.reduceEqDiff, Nat.reduceAdd, ↓reduceIte, reduceCtorEq, hlen, eq_false q1, rBuild_eq, partsOf_cons, partsOf_nil, lit_xx, bu23_2, nBuildSlice_eq, bS24_1, bu28_0, al28]
  generalize s.new (.row (mkRow [.str ⟨1, 120⟩, .str (Str.ofL v)])) = s1 at e1 n1 o1 ⊢
  obtain ⟨s2, w2, r2, n2, o2⟩ := row_written s1 [.nils, .nils, .nils] [.sl s.nx 0 1 (some 1) 2, .nils, .nils] rfl
  have e2 := e1.keep (o2 _ (by omega))
  have l2 : ldHA 3 s2.h.get s1.nx 0 = some (.agg [.sl s.nx 0 1 (some 1) 2, .nils, .nils]) := r2.ldA
  have g2 : rowsAre s2.h.get Wk.gs = true := rows_congr (fun p hp => by have := hgn p hp; rw [o2 _ (by omega), o1 _ (by omega)]) hg
  have hnx0 : s.nx < s1.nx := by omega
  have hgn2 : ∀ p ∈ Wk.gs, p.1 < s.nx := hgn
  generalize hp0 : s.nx = p0 at *
  generalize hp3 : s1.nx = p3 at *
  simp only [zEV, Nat.reduceShiftRight, Nat.reduceMod, Nat.reduceEqDiff, Nat.reduceAdd, ↓reduceIte, reduceCtorEq, st28, List.length_cons, List.length_nil, w2]
  rw [show [C.sl p0 0 1 (some 1) 2, C.nils, C.nils] = envC p0 from rfl] at r2 l2
  have hsame := same_env p0
  have hec : (cellsD (envV (Str.ofL v))).length = 3 := rfl
  -- the fields in quotes
  have r2a : LRow ⟨s2.h.set (s2.nx + 1) (.row (mkRow (cellsD (wdQ true)))), s2.nx + 12⟩ p3 (envC p0) := row_other r2 (by omega)
  have l2a : ldHA 3 (s2.h.set (s2.nx + 1) (.row (mkRow (cellsD (wdQ true))))).get p3 0 = some (.agg (envC p0)) := r2a.ldA
  have o2a : ∀ x, x ≠ s2.nx + 1 → (⟨s2.h.set (s2.nx + 1) (.row (mkRow (cellsD (wdQ true)))), s2.nx + 12⟩ : St).h.get x = s2.h.get x := fun x hx => by
    show (s2.h.set (s2.nx + 1) (.row (mkRow (cellsD (wdQ true))))).get x = s2.h.get x
    rw [T.get_set, if_neg hx]
  have hw2 : LRow ⟨s2.h.set (s2.nx + 1) (.row (mkRow (cellsD (wdQ true)))), s2.nx + 12⟩ (s2.nx + 1) (cellsD (wdQ true)) := row_set s2.h _ _ _
  obtain ⟨s3, hc3, n3, o3, e3⟩ := callR_fd h5 true v h300 ⟨s2.h.set (s2.nx + 1) (.row (mkRow (cellsD (wdQ true)))), s2.nx + 12⟩ (s2.nx + 1) p0 hw2 (e2.keep (o2a p0 (by omega)))
  have n3 : s3.nx = s2.nx + 12 := n3
  have r3 : LRow s3 p3 (envC p0) := r2a.keep (o3 p3 (by omega) (by omega))
  have l3 : ldHA 3 s3.h.get p3 0 = some (.agg (envC p0)) := r3.ldA
  have g3 : rowsAre s3.h.get Wk.gs = true := rows_congr (fun q hq => by have := hgn q hq; rw [o3 _ (by omega) (by omega), o2a _ (by omega)]) g2
  rw [pvF_toV1 (q := true) (by rw [TS_q]; show 1 ≤ 100; decide)] at hc3
  refine go_drawD _ _ 11 12 [0, 1, 0, 7, 15, 31, 31, 31, 0, 319, 895, 2047] rfl (by kernel_rfl) (by kernel_rfl) (by kernel_rfl) ?_
  simp only [zEV, Nat.reduceShiftRight, Nat.reduceMod, Nat.reduceEqDiff, Nat.reduceAdd, ↓reduceIte, reduceCtorEq, zDG, Nat.reduceOr, Nat.reduceAnd, Nat.reduceShiftLeft, Nat.reduceLT]
  refine dg_call _ _ _ _ _ _ (ws := [.c (.str (txQ true))]) rfl (by simp only [zEA, Nat.reduceShiftRight, Nat.reduceMod, Nat.reduceEqDiff, Nat.reduceAdd, ↓reduceIte, reduceCtorEq, argsOf_cons, argsOf_nil, lit_qx]) (callR_fq h6 true ⟨s2.h, s2.nx + 12⟩ g2) (by decide) (by simp only [zDG, Nat.reduceOr, Nat.reduceAnd, Nat.reduceShiftLeft, Nat.reduceLT, Nat.reduceShiftRight, Nat.reduceMod, decide_true, eq_self, true_and, and_self]) ?_
  simp only [zEV, Nat.reduceShiftRight, Nat.reduceMod, Nat.reduceEqDiff, Nat.reduceAdd, ↓reduceIte, reduceCtorEq, zDG, Nat.reduceOr, Nat.reduceAnd, Nat.reduceShiftLeft, Nat.reduceLT, nBuildSlice_eq, partsOf_cons, partsOf_nil, bS36q, ldh28, l2, l2a, hsame]
  refine dg_call _ _ _ _ _ _ (ws := [.c (.sl (s2.nx + 1) 0 1 (some 1) 1), .agg (envC p0), .c (.int .i64 0), .c .nils]) rfl (by simp only [zEA, Nat.reduceShiftRight, Nat.reduceMod, Nat.reduceEqDiff, Nat.reduceAdd, ↓reduceIte, reduceCtorEq, argsOf_cons, argsOf_nil]) hc3 (by decide) (by simp only [zDG, Nat.reduceOr, Nat.reduceAnd, Nat.reduceShiftLeft, Nat.reduceLT, Nat.reduceShiftRight, Nat.reduceMod, ldh28, l3, hsame, decide_true, eq_self, true_and, and_self]) ?_
  have r5 := row_set s3.h s3.nx (s2.nx + 8) [.nils, .nils, .nils]
  obtain ⟨s4, w4, r5', n4, o4⟩ := r5.over (r := cellsD (envV (Str.ofL v))) hec
  have o4a : ∀ x, x ≠ s2.nx + 8 → s4.h.get x = s3.h.get x := fun x hx => by
    rw [o4 x hx]
    show (s3.h.set (s2.nx + 8) _).get x = s3.h.get x
    rw [T.get_set, if_neg hx]
  have r4 : LRow s4 p3 (envC p0) := r3.keep (o4a p3 (by omega))
  have l4 : ldHA 3 s4.h.get p3 0 = some (.agg (envC p0)) := r4.ldA
  have e4 : EnvAt s4 p0 (Str.ofL v) := e3.keep (o4a p0 (by omega))
  have g4 : rowsAre s4.h.get Wk.gs = true := rows_congr (fun q hq => by have := hgn q hq; rw [o4a _ (by omega)]) g3
  have n4 : s4.nx = s3.nx := n4
  simp only [zEV, Nat.reduceShiftRight, Nat.reduceMod, Nat.reduceEqDiff, Nat.reduceAdd, ↓reduceIte, reduceCtorEq, zDG, Nat.reduceOr, Nat.reduceAnd, Nat.reduceShiftLeft, Nat.reduceLT, al28, st28, hec, w4, ldh28, l3, hsame]
  -- the fields without
  have r4b : LRow ⟨s4.h.set (s4.nx + 1) (.row (mkRow (cellsD (wdQ false)))), s4.nx + 12⟩ p3 (envC p0) := row_other r4 (by omega)
  have l4b : ldHA 3 (s4.h.set (s4.nx + 1) (.row (mkRow (cellsD (wdQ false))))).get p3 0 = some (.agg (envC p0)) := r4b.ldA
  have o4b : ∀ x, x ≠ s4.nx + 1 → (⟨s4.h.set (s4.nx + 1) (.row (mkRow (cellsD (wdQ false)))), s4.nx + 12⟩ : St).h.get x = s4.h.get x := fun x hx => by
    show (s4.h.set (s4.nx + 1) (.row (mkRow (cellsD (wdQ false))))).get x = s4.h.get x
    rw [T.get_set, if_neg hx]
  have hw4 : LRow ⟨s4.h.set (s4.nx + 1) (.row (mkRow (cellsD (wdQ false)))), s4.nx + 12⟩ (s4.nx + 1) (cellsD (wdQ false)) := row_set s4.h _ _ _
  obtain ⟨s5, hc5, n5, o5, e5_⟩ := callR_fd h5 false v h300 ⟨s4.h.set (s4.nx + 1) (.row (mkRow (cellsD (wdQ false)))), s4.nx + 12⟩ (s4.nx + 1) p0 hw4 (e4.keep (o4b p0 (by omega)))
  have n5 : s5.nx = s4.nx + 12 := n5
  have r5_ : LRow s5 p3 (envC p0) := r4b.keep (o5 p3 (by omega) (by omega))
  have l5 : ldHA 3 s5.h.get p3 0 = some (.agg (envC p0)) := r5_.ldA
  have g5 : rowsAre s5.h.get Wk.gs = true := rows_congr (fun q hq => by have := hgn q hq; rw [o5 _ (by omega) (by omega), o4b _ (by omega)]) g4
  obtain ⟨dl, er, hpv, her⟩ := pvF_two v
  rw [hpv] at hc5
  refine go_drawD _ _ 11 12 [0, 1, 0, 7, 15, 31, 31, 31, 0, 319, 895, 2047] rfl (by kernel_rfl) (by kernel_rfl) (by kernel_rfl) ?_
  simp only [zEV, Nat.reduceShiftRight, Nat.reduceMod, Nat.reduceEqDiff, Nat.reduceAdd, ↓reduceIte, reduceCtorEq, zDG, Nat.reduceOr, Nat.reduceAnd, Nat.reduceShiftLeft, Nat.reduceLT]
  refine dg_call _ _ _ _ _ _ (ws := [.c (.str (txQ false))]) rfl (by simp only [zEA, Nat.reduceShiftRight, Nat.reduceMod, Nat.reduceEqDiff, Nat.reduceAdd, ↓reduceIte, reduceCtorEq, argsOf_cons, argsOf_nil, lit_ux]) (callR_fq h6 false ⟨s4.h, s4.nx + 12⟩ g4) (by decide) (by simp only [zDG, Nat.reduceOr, Nat.reduceAnd, Nat.reduceShiftLeft, Nat.reduceLT, Nat.reduceShiftRight, Nat.reduceMod, decide_true, eq_self, true_and, and_self]) ?_
  simp only [zEV, Nat.reduceShiftRight, Nat.reduceMod, Nat.reduceEqDiff, Nat.reduceAdd, ↓reduceIte, reduceCtorEq, zDG, Nat.reduceOr, Nat.reduceAnd, Nat.reduceShiftLeft, Nat.reduceLT, nBuildSlice_eq, partsOf_cons, partsOf_nil, bS36q, ldh28, l4, l4b, hsame]
  refine dg_call _ _ _ _ _ _ (ws := [.c (.sl (s4.nx + 1) 0 1 (some 1) 1), .agg (envC p0), .c (.int .i64 0), .c .nils]) rfl (by simp only [zEA, Nat.reduceShiftRight, Nat.reduceMod, Nat.reduceEqDiff, Nat.reduceAdd, ↓reduceIte, reduceCtorEq, argsOf_cons, argsOf_nil]) hc5 (by decide) (by simp only [zDG, Nat.reduceOr, Nat.reduceAnd, Nat.reduceShiftLeft, Nat.reduceLT, Nat.reduceShiftRight, Nat.reduceMod, ldh28, l5, hsame, decide_true, eq_self, true_and, and_self]) ?_
  have r7 := row_set s5.h s5.nx (s4.nx + 8) [.nils, .nils, .nils]
  obtain ⟨s6, w6, r7', n6, o6⟩ := r7.over (r := cellsD (envV (Str.ofL v))) hec
  have o6a : ∀ x, x ≠ s4.nx + 8 → s6.h.get x = s5.h.get x := fun x hx => by
    rw [o6 x hx]
    show (s5.h.set (s4.nx + 8) _).get x = s5.h.get x
    rw [T.get_set, if_neg hx]
  have r6 : LRow s6 p3 (envC p0) := r5_.keep (o6a p3 (by omega))
  have l6 : ldHA 3 s6.h.get p3 0 = some (.agg (envC p0)) := r6.ldA
  have e6_ : EnvAt s6 p0 (Str.ofL v) := e5_.keep (o6a p0 (by omega))
  have g6 : rowsAre s6.h.get Wk.gs = true := rows_congr (fun q hq => by have := hgn q hq; rw [o6a _ (by omega)]) g5
  have n6 : s6.nx = s5.nx := n6
  simp only [zEV, Nat.reduceShiftRight, Nat.reduceMod, Nat.reduceEqDiff, Nat.reduceAdd, ↓reduceIte, reduceCtorEq, zDG, Nat.reduceOr, Nat.reduceAnd, Nat.reduceShiftLeft, Nat.reduceLT, al28, st28, hec, w6, ldh28, l5, hsame]
  -- the text
  obtain ⟨s7, hc7, n7, o7⟩ := callR_tqE h7 v h300 ⟨s6.h, s6.nx + 11⟩ p0 e6_
  have n7 : s7.nx = s6.nx + 11 := n7
  have r9 : LRow s7 p3 (envC p0) := r6.keep (o7 p3 (by omega))
  have l7 : ldHA 3 s7.h.get p3 0 = some (.agg (envC p0)) := r9.ldA
  have g7 : rowsAre s7.h.get Wk.gs = true := rows_congr (fun q hq => by have := hgn q hq; rw [o7 _ (by omega)]) g6
  have r10 := row_set s7.h s7.nx (s6.nx + 7) [.nils, .nils, .nils]
  obtain ⟨s8, w8, r10', n8, o8⟩ := r10.over (r := cellsD (envV (Str.ofL v))) hec
  have o8a : ∀ x, x ≠ s6.nx + 7 → s8.h.get x = s7.h.get x := fun x hx => by
    rw [o8 x hx]
    show (s7.h.set (s6.nx + 7) _).get x = s7.h.get x
    rw [T.get_set, if_neg hx]
  have g8 : rowsAre s8.h.get Wk.gs = true := rows_congr (fun q hq => by have := hgn q hq; rw [o8a _ (by omega)]) g7
  have n8 : s8.nx = s7.nx := n8
  refine go_drawD _ _ 10 11 [0, 0, 3, 7, 15, 15, 15, 0, 159, 447, 1023] rfl (by kernel_rfl) (by kernel_rfl) (by kernel_rfl) ?_
  simp only [zEV, Nat.reduceShiftRight, Nat.reduceMod, Nat.reduceEqDiff, Nat.reduceAdd, ↓reduceIte, reduceCtorEq, zDG, Nat.reduceOr, Nat.reduceAnd, Nat.reduceShiftLeft, Nat.reduceLT]
  refine dg_call _ _ _ _ _ _ (ws := [.c (.str (txQ false))]) rfl (by simp only [zEA, Nat.reduceShiftRight, Nat.reduceMod, Nat.reduceEqDiff, Nat.reduceAdd, ↓reduceIte, reduceCtorEq, argsOf_cons, argsOf_nil, lit_ux]) (callR_fq h6 false ⟨s6.h, s6.nx + 11⟩ g6) (by decide) (by simp only [zDG, Nat.reduceOr, Nat.reduceAnd, Nat.reduceShiftLeft, Nat.reduceLT, Nat.reduceShiftRight, Nat.reduceMod, decide_true, eq_self, true_and, and_self]) ?_
  simp only [zEV, Nat.reduceShiftRight, Nat.reduceMod, Nat.reduceEqDiff, Nat.reduceAdd, ↓reduceIte, reduceCtorEq, zDG, Nat.reduceOr, Nat.reduceAnd, Nat.reduceShiftLeft, Nat.reduceLT, ldh28, l6, hsame]
  refine dg_call _ _ _ _ _ _ (ws := [.agg (cellsD (wdQ false)), .agg (envC p0), .c (.int .i64 0)]) rfl (by simp only [zEA, Nat.reduceShiftRight, Nat.reduceMod, Nat.reduceEqDiff, Nat.reduceAdd, ↓reduceIte, reduceCtorEq, argsOf_cons, argsOf_nil]) hc7 (by decide) (by simp only [zDG, Nat.reduceOr, Nat.reduceAnd, Nat.reduceShiftLeft, Nat.reduceLT, Nat.reduceShiftRight, Nat.reduceMod, ldh28, l7, hsame, decide_true, eq_self, true_and, and_self]) ?_
  simp only [zEV, Nat.reduceShiftRight, Nat.reduceMod, Nat.reduceEqDiff, Nat.reduceAdd, ↓reduceIte, reduceCtorEq, zDG, Nat.reduceOr, Nat.reduceAnd, Nat.reduceShiftLeft, Nat.reduceLT, al28, st28, hec, w8, ldh28, l7, hsame]
  -- what is wanted
  have gU8 := gsU_of g8
  refine go_call _ _ _ _ _ _ (ws := [.c (.str (Str.ofL v)), .c (.bool true)]) rfl (by simp only [zEA, Nat.reduceShiftRight, Nat.reduceMod, Nat.reduceEqDiff, Nat.reduceAdd, ↓reduceIte, reduceCtorEq, argsOf_cons, argsOf_nil]) ?_
  refine goC_of (callR_c13 h9 v true (by omega) s8 gU8) ?_
  have hcl := chars_len v true
  simp only [zEV, Nat.reduceShiftRight, Nat.reduceMod, Nat.reduceEqDiff, Nat.reduceAdd, ↓reduceIte, reduceCtorEq]
  refine go_call _ _ _ _ _ _ (ws := [.c (chD (charsOf v true)).toC]) rfl (by simp only [zEA, Nat.reduceShiftRight, Nat.reduceMod, Nat.reduceEqDiff, Nat.reduceAdd, ↓reduceIte, reduceCtorEq, argsOf_cons, argsOf_nil]) ?_
  refine goC_of (callR_t13 h8 (charsOf v true) (by omega) s8) ?_
  simp only [zEV, Nat.reduceShiftRight, Nat.reduceMod, Nat.reduceEqDiff, Nat.reduceAdd, ↓reduceIte, reduceCtorEq]
  refine go_call _ _ _ _ _ _ (ws := [.c (.str (Str.ofL v))]) rfl (by simp only [zEA, Nat.reduceShiftRight, Nat.reduceMod, Nat.reduceEqDiff, Nat.reduceAdd, ↓reduceIte, reduceCtorEq, argsOf_cons, argsOf_nil]) ?_
  refine words10 X h10 h23 v (by omega) s8 _ ?_
  intro c s9 sl9 n9 o9
  have g9 : rowsAre s9.h.get Wk.gs = true := rows_congr (fun q hq => by have := hgn q hq; rw [o9 _ (by omega)]) g8
  have hcL : ∀ look, len (En X) 25 look c = some (words v).length := fun look => by rw [sl9.len X look]; unfold wC; rw [List.length_map]
  have hTl : (TS v false).length = (words v).length := by rw [TS_u, List.length_map]
  simp only [zEV, Nat.reduceShiftRight, Nat.reduceMod, Nat.reduceEqDiff, Nat.reduceAdd, ↓reduceIte, reduceCtorEq, hcL]
  by_cases hw : 100 < (words v).length
  · have hw' : (100 < Int.ofNat (words v).length) = True := eq_true (by show (100 : Int) < (((words v).length : Nat) : Int); omega)
    have her3 : er = 3 := by
      rcases her with ⟨h, _, _⟩ | ⟨_, h⟩
      · omega
      · exact h
    have e33 : ((3 : Int) = 3) = True := eq_self 3
    subst her3
    simp only [zEV, Nat.reduceShiftRight, Nat.reduceMod, Nat.reduceEqDiff, Nat.reduceAdd, ↓reduceIte, reduceCtorEq, hw', e33]
    refine go_call _ _ _ _ _ _ (ws := []) (g := 11) (cap := []) rfl rfl ?_
    refine goC_of (known_call h11 g9) ?_
    simp only [zEV, Nat.reduceShiftRight, Nat.reduceMod, Nat.reduceEqDiff, Nat.reduceAdd, ↓reduceIte, reduceCtorEq, hres]
    exact hK _
  have hw' : (100 < Int.ofNat (words v).length) = False := eq_false (by show ¬ (100 : Int) < (((words v).length : Nat) : Int); omega)
  obtain ⟨hle, rfl, rfl⟩ : (TS v false).length ≤ 100 ∧ dl = (slD 1 (tsL (TS v false))).toC ∧ er = 0 := by
    rcases her with h | ⟨h, _⟩
    · exact h
    · omega
  have hwl := words_len v
  have hmall := mix_all v
  have hsub : textS (charsOf v false) = textS (charsOf v true) := textS_qs v _ _
  have htq : TS v true = [textS (charsOf v true)] := TS_q v
  rw [htq, hsub]
  rw [← mix_0] at sl9
  have hd1 : (slD 1 (tsL [textS (charsOf v true)])) = .sl 1 (tsL [textS (charsOf v true)]) := rfl
  generalize hds : TS v false = ds at *
  generalize hwd : textS (charsOf v true) = wd at *
  generalize hold : words v = old at *
  simp only [zEV, Nat.reduceShiftRight, Nat.reduceMod, Nat.reduceEqDiff, Nat.reduceAdd, ↓reduceIte, reduceCtorEq, hw']
  generalize hdq : (slD 1 (tsL [wd])).toC = dq at *
  generalize hdu : (slD 1 (tsL ds)).toC = du at *
  refine go_loop (goL_inv (fun n' a' s' => ∃ i, n' = old.length - i ∧ i ≤ old.length ∧ Has a' 4 (vc dq) ∧ Has a' 6 (vc (.int .i64 0)) ∧ Has a' 7 (vc du) ∧ Has a' 9 (vc (.int .i64 0)) ∧ Has a' 10 (vc (.str wd)) ∧ Has a' 12 (vc (.int .i64 0)) ∧ Has a' 13 (vc (.str wd)) ∧ Has a' 14 (vc c) ∧ Has a' 15 (vc (.int .i64 (Int.ofNat i))) ∧
      SlW s' s8.nx c (mixC old i) ∧ s8.nx ≤ s'.nx ∧ ∀ x, x < s8.nx → s'.h.get x = s9.h.get x) (n := old.length)
    ⟨0, rfl, Nat.zero_le _, ⟨rfl, rfl⟩, ⟨rfl, rfl⟩, ⟨rfl, rfl⟩, ⟨rfl, rfl⟩, ⟨rfl, rfl⟩, ⟨rfl, rfl⟩, ⟨rfl, rfl⟩, ⟨rfl, rfl⟩, ⟨rfl, rfl⟩, sl9, n9, fun _ _ => rfl⟩ ?_)
  rintro n' a' s' ⟨i, rfl, hi, ⟨g4, k4⟩, ⟨g6, k6⟩, ⟨g7, k7⟩, ⟨g9', k9⟩, ⟨g10, k10⟩, ⟨g12, k12⟩, ⟨g13, k13⟩, ⟨g14, k14⟩, ⟨g15, k15⟩, hsl, hnx, hkp⟩
  have hcL : ∀ look, len (En X) 25 look c = some old.length := fun look => by rw [hsl.len X look, mix_len]
  have gW : rowsAre s'.h.get Wk.gs = true := rows_congr (fun q hq => by have := hgn q hq; rw [hkp _ (by omega)]) g9
  have gU := gsU_of gW
  by_cases hlt : i < old.length
  · have hlt' : (Int.ofNat i < Int.ofNat old.length) = True := eq_true (Int.ofNat_lt.2 hlt)
    have hsu := nat_succ (show i < 9223372036854775807 by omega)
    obtain ⟨w, hww⟩ : ∃ w, old[i]? = some w := ⟨_, List.getElem?_eq_getElem hlt⟩
    have hwlen : w.length ≤ v.length := hwl w (List.mem_of_getElem? hww)
    obtain ⟨b, hcb, hld⟩ := hsl.read (mix_get hww)
    obtain ⟨b', hcb', s'', hwr, hsl', hnx', hkp'⟩ := hsl.write (i := i) (by rw [mix_len]; exact hlt) (C.str (textS (charsOf w true)))
    have hbb : b' = b := by rw [hcb] at hcb'; cases hcb'; rfl
    subst hbb
    have hix : indexAddr (En X) 25 c (Int.ofNat i) = some (.ptr b' i) := by
      rw [hcb, index_sl (us25 X) (sz9 X) _ _ _ _ _ (by rw [mix_len]; exact hlt), Nat.zero_add, Nat.mul_one]
    rw [mix_set hww] at hsl'
    have hst : store (En X) 9 s' b' i (.c (.str (textS (charsOf w true)))) = some s'' := by
      rw [st9]; exact (if_pos rfl).trans hwr
    have hcw := chars_len w true
    simp only [zEV, Nat.reduceShiftRight, Nat.reduceMod, Nat.reduceEqDiff, Nat.reduceAdd, ↓reduceIte, reduceCtorEq, g4, k4, g6, k6, g7, k7, g9', k9, g10, k10, g12, k12, g13, k13, g14, k14, g15, k15, hcL, hlt', hix, ldh9, hld]
    refine go_call _ _ _ _ _ _ (ws := [.c (.str (Str.ofL w)), .c (.bool true)]) rfl (by simp only [zEA, Nat.reduceShiftRight, Nat.reduceMod, Nat.reduceEqDiff, Nat.reduceAdd, ↓reduceIte, reduceCtorEq, argsOf_cons, argsOf_nil]) ?_
    refine goC_of (callR_c13 h9 w true (by omega) s' gU) ?_
    simp only [zEV, Nat.reduceShiftRight, Nat.reduceMod, Nat.reduceEqDiff, Nat.reduceAdd, ↓reduceIte, reduceCtorEq, g14, k14, g15, k15]
    refine go_call _ _ _ _ _ _ (ws := [.c (chD (charsOf w true)).toC]) rfl (by simp only [zEA, Nat.reduceShiftRight, Nat.reduceMod, Nat.reduceEqDiff, Nat.reduceAdd, ↓reduceIte, reduceCtorEq, argsOf_cons, argsOf_nil]) ?_
    refine goC_of (callR_t13 h8 (charsOf w true) (by omega) s') ?_
    simp only [zEV, Nat.reduceShiftRight, Nat.reduceMod, Nat.reduceEqDiff, Nat.reduceAdd, ↓reduceIte, reduceCtorEq, g4, k4, g6, k6, g7, k7, g9', k9, g10, k10, g12, k12, g13, k13, g14, k14, g15, k15, hix, hst, hsu]
    refine ⟨_, ?_, i + 1, rfl, hlt, ⟨?_, ?_⟩, ⟨?_, ?_⟩, ⟨?_, ?_⟩, ⟨?_, ?_⟩, ⟨?_, ?_⟩, ⟨?_, ?_⟩, ⟨?_, ?_⟩, ⟨?_, ?_⟩, ⟨?_, ?_⟩, hsl', by omega, fun x hx => (hkp' x hx).trans (hkp x hx)⟩
    all_goals first | (simp only [zEV, Nat.reduceShiftRight, Nat.reduceMod, Nat.reduceEqDiff, Nat.reduceAdd, ↓reduceIte, reduceCtorEq, g4, k4, g6, k6, g7, k7, g9', k9, g10, k10, g12, k12, g13, k13, g14, k14, g15, k15]; done) | (simp only [zEV, Nat.reduceShiftRight, Nat.reduceMod, Nat.reduceEqDiff, Nat.reduceAdd, ↓reduceIte, reduceCtorEq, g4, k4, g6, k6, g7, k7, g9', k9, g10, k10, g12, k12, g13, k13, g14, k14, g15, k15]; rfl) | omega
  · have hlt' : (Int.ofNat i < Int.ofNat old.length) = False := eq_false (fun h => hlt (Int.ofNat_lt.1 h))
    have hil : i = old.length := by omega
    rw [hil, hmall] at hsl
    have z0 : ((0 : Int) = 0) = True := eq_self 0
    have hs2 : SlW (s'.new (.row (mkRow [.str wd]))) s8.nx c (ds.map C.str) := hsl.keep (by rw [St.new_nx]; omega) fun x hx => new_old s' _ hx
    obtain ⟨bs, hfz, _⟩ := hs2.frz
    have hf1 : frzC (s'.new (.row (mkRow [.str wd]))).h.get 2000 (.sl s'.nx 0 1 (some 1) 1) = some (slD 1 (tsL [wd]), [s'.nx]) := frz_sl (ls := tsL [wd]) (cap := some 1) (tsL_one _) (RowAt.of (LRow.new s' [.str wd])) (tsL_plain _) (Nat.le_refl _) rfl 1999
    have g10' : rowsAre (s'.new (.row (mkRow [.str wd]))).h.get Wk.gs = true := rows_congr (fun q hq => by have := hgn q hq; rw [new_old s' _ (by omega)]) gW
    have hc1 := callR_tx h12 [wd] (by show 1 ≤ 100000; decide) (s'.new (.row (mkRow [.str wd]))) hf1
    have hc2 := callR_tx h12 ds (by omega) (s'.new (.row (mkRow [.str wd]))) hfz
    rw [hdq] at hc1
    rw [hdu] at hc2
    simp only [zEV, Nat.reduceShiftRight, Nat.reduceMod, Nat.reduceEqDiff, Nat.reduceAdd, ↓reduceIte, reduceCtorEq, g4, k4, g6, k6, g7, k7, g9', k9, g10, k10, g12, k12, g13, k13, g14, k14, g15, k15, hcL, hlt', z0, nBuildSlice_eq, partsOf_cons, partsOf_nil, bS25_1]
    refine go_call _ _ _ _ _ _ (ws := [.c dq, .c (.sl s'.nx 0 1 (some 1) 1)]) rfl (by simp only [zEV, Nat.reduceShiftRight, Nat.reduceMod, Nat.reduceEqDiff, Nat.reduceAdd, ↓reduceIte, reduceCtorEq, g4, k4, argsOf_cons, argsOf_nil]) ?_
    refine goC_of hc1 ?_
    simp only [zEV, Nat.reduceShiftRight, Nat.reduceMod, Nat.reduceEqDiff, Nat.reduceAdd, ↓reduceIte, reduceCtorEq, g4, k4, g6, k6, g7, k7, g9', k9, g10, k10, g12, k12, g13, k13, g14, k14, g15, k15]
    refine go_call _ _ _ _ _ _ (ws := [.c du, .c c]) rfl (by simp only [zEV, Nat.reduceShiftRight, Nat.reduceMod, Nat.reduceEqDiff, Nat.reduceAdd, ↓reduceIte, reduceCtorEq, g7, k7, g14, k14, argsOf_cons, argsOf_nil]) ?_
    refine goC_of hc2 ?_
    simp only [zEV, Nat.reduceShiftRight, Nat.reduceMod, Nat.reduceEqDiff, Nat.reduceAdd, ↓reduceIte, reduceCtorEq, g4, k4, g6, k6, g7, k7, g9', k9, g10, k10, g12, k12, g13, k13, g14, k14, g15, k15, b_selfeql]
    refine go_call _ _ _ _ _ _ (ws := []) (g := 11) (cap := []) rfl rfl ?_
    refine goC_of (known_call h11 g10') ?_
    simp only [zEV, Nat.reduceShiftRight, Nat.reduceMod, Nat.reduceEqDiff, Nat.reduceAdd, ↓reduceIte, reduceCtorEq, hres]
    exact hK _
end Ws
