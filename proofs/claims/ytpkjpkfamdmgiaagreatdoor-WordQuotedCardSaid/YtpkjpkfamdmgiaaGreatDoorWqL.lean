import Derived.Test.YtpkjpkfamdmgiaaGreatDoorWqK
import Derived.Test.YtpkjpkfamdmgiaaGreatDoorEwL
namespace Ws
open Go Go.Proofs Ev Wq
set_option linter.unusedVariables false
set_option linter.unusedSimpArgs false
set_option linter.unnecessarySimpa false
set_option maxRecDepth 100000
theorem slC_plain (l : List (Nat × Bool)) : (slD 2 (l.map elC)).plain = true := slD_plain _ _
theorem pattern20q (X : T Ext) (hX : (En X).ext.get 20 = none) (h16 : (En X).ext.get 16 = some (.fn (ofG RRq) [])) (h37 : (En X).ext.get 37 = some (.fn (ofG RJoin) [])) (l : List UInt8) (h2 : l.length ≤ 300) (s : St) (K : V → St → Prop)
    (hK : ∀ s', K (.tup [.c (slD 2 ((charsOf l false).map elC)).toC, .agg (cellsD (envV (Str.ofL l))), .c (.int .i64 0)]) s') : goC (En X) 20 [.agg (cellsD (wdQ false)), .agg (cellsD (envV (Str.ofL l))), .c (.int .i64 0)] s K := by
  refine goC_body hX (kp20 X) (fn20 X) rfl (by kernel_rfl) ?_
  have hres : Tryz.f20.results.toList = [.tmp 6, .cell 7 28, .tmp 8] := rfl
  obtain ⟨e, he⟩ : ∃ e, e = envV (Str.ofL l) := ⟨_, rfl⟩
  have hel : e.length = 3 := by rw [he]; rfl
  have hec : (cellsD e).length = 3 := by rw [he]; rfl
  have hrc := fun s => callR_rq h16 false l h2 s
  rw [← he] at hK hrc ⊢
  have q3 := LRow.new s (cellsD (wdQ false))
  have n0 : (s.new (.row (mkRow (cellsD (wdQ false))))).nx = s.nx + 1 := St.new_nx _ _
  simp only [zEV, Nat.reduceShiftRight, Nat.reduceMod, Nat.reduceEqDiff, Nat.reduceAdd, ↓reduceIte, reduceCtorEq, nBox_eq, al28]
  generalize s.new (.row (mkRow (cellsD (wdQ false)))) = s1 at q3 n0 ⊢
  have q3' := q3.keep (new_old s1 (.row (mkRow (cellsD e))) (by omega))
  have q4 := LRow.new s1 (cellsD e)
  have n1 : (s1.new (.row (mkRow (cellsD e)))).nx = s1.nx + 1 := St.new_nx _ _
  generalize s1.new (.row (mkRow (cellsD e))) = s2 at q3' q4 n1 ⊢
  have q3'' := q3'.keep (new_old s2 (.row (mkRow [.nils, .nils, .nils])) (by omega))
  have q4' := q4.keep (new_old s2 (.row (mkRow [.nils, .nils, .nils])) (by omega))
  have q7 := LRow.new s2 [.nils, .nils, .nils]
  have n2 : (s2.new (.row (mkRow [.nils, .nils, .nils]))).nx = s2.nx + 1 := St.new_nx _ _
  generalize s2.new (.row (mkRow [.nils, .nils, .nils])) = s3 at q3'' q4' q7 n2 ⊢
  generalize hp3 : s.nx = p3 at *
  generalize hp4 : s1.nx = p4 at *
  generalize hp7 : s2.nx = p7 at *
  have l3 := ldA1 (x := wdQ false) rfl q3''
  have l4 := ldA3 hel q4'
  simp only [zEV, Nat.reduceShiftRight, Nat.reduceMod, Nat.reduceEqDiff, Nat.reduceAdd, ↓reduceIte, reduceCtorEq, ldh34, ldh28, l3, l4]
  refine go_call _ _ _ _ _ _ (ws := [.agg (cellsD (wdQ false)), .agg (cellsD e), .c (.int .i64 0)]) rfl (by simp only [zEA, Nat.reduceShiftRight, Nat.reduceMod, Nat.reduceEqDiff, Nat.reduceAdd, ↓reduceIte, reduceCtorEq, argsOf_cons, argsOf_nil]) ?_
  refine goC_of (hrc s3) ?_
  obtain ⟨s4, w4, r4, n4, o4⟩ := row_written s3 [.nils, .nils, .nils] (cellsD e) hec
  have z0 : ((0 : Int) = 0) = True := eq_self 0
  simp only [zEV, Nat.reduceShiftRight, Nat.reduceMod, Nat.reduceEqDiff, Nat.reduceAdd, ↓reduceIte, reduceCtorEq, al28, st28, hec, w4, z0]
  have q7' : LRow s4 p7 [.nils, .nils, .nils] := q7.keep (o4 _ (by omega))
  refine go_drawD _ _ 4 6 [0, 1, 0, 3, 15, 31] rfl (by kernel_rfl) (by kernel_rfl) (by kernel_rfl) ?_
  have l10 := ldA3 hel r4
  have q8 : LRow ⟨s4.h, s4.nx + 6⟩ p7 [.nils, .nils, .nils] := q7'.keep rfl
  have hjc : CallR (En X) 37 [.c (.dat 4 [elN (rnV l false)])] ⟨s4.h, s4.nx + 6⟩ (.w (.c (slD 2 ((charsOf l false).map elC)).toC)) ⟨s4.h, s4.nx + 6⟩ := by
    have := callR_join h37 [rnV l false] (by intro x hx; simp at hx; subst hx; show l.length ≤ 1000; omega) (show 1 ≤ 100 by decide) ⟨s4.h, s4.nx + 6⟩
    rw [show joinC [rnV l false] = charsOf l false by simp [joinC, rnV]] at this
    exact this
  simp only [zEV, Nat.reduceShiftRight, Nat.reduceMod, Nat.reduceEqDiff, Nat.reduceAdd, ↓reduceIte, reduceCtorEq, zDG, Nat.reduceOr, Nat.reduceAnd, Nat.reduceShiftLeft, Nat.reduceLT]
  refine dg_call _ _ _ _ _ _ (ws := [.c (.dat 4 [elN (rnV l false)])]) rfl (by simp only [zEA, Nat.reduceShiftRight, Nat.reduceMod, Nat.reduceEqDiff, Nat.reduceAdd, ↓reduceIte, reduceCtorEq, argsOf_cons, argsOf_nil]) hjc (by decide) (by simp only [zDG, Nat.reduceOr, Nat.reduceAnd, Nat.reduceShiftLeft, Nat.reduceLT, Nat.reduceShiftRight, Nat.reduceMod, decide_true, eq_self, true_and, and_self]) ?_
  have hsame : V.same (.w (.agg (cellsD e))) (.w (.agg (cellsD e))) = true := sameL_toC e
  obtain ⟨s5, w5, r5, n5, o5⟩ := q8.over (r := cellsD e) hec
  simp only [zEV, Nat.reduceShiftRight, Nat.reduceMod, Nat.reduceEqDiff, Nat.reduceAdd, ↓reduceIte, reduceCtorEq, zDG, Nat.reduceOr, Nat.reduceAnd, Nat.reduceShiftLeft, Nat.reduceLT, ldh28, l10, hsame]
  rw [dt_B]
  refine dtB_storeL q8 rfl (b := p7) (o := 0) (w := .agg (cellsD e)) (s' := s5) (by simp only [zEA, Nat.reduceShiftRight, Nat.reduceMod, Nat.reduceEqDiff, Nat.reduceAdd, ↓reduceIte, reduceCtorEq]) (by simp only [zEA, Nat.reduceShiftRight, Nat.reduceMod, Nat.reduceEqDiff, Nat.reduceAdd, ↓reduceIte, reduceCtorEq]) (by rw [st28, show (W.agg (cellsD e)).cells = cellsD e from rfl, if_pos hec]; exact w5) ?_
  rw [dtB_assign, dtB_nil]
  have l5 := ldA3 hel r5
  simp only [zEV, Nat.reduceShiftRight, Nat.reduceMod, Nat.reduceEqDiff, Nat.reduceAdd, ↓reduceIte, reduceCtorEq, ldh28, l5, hres]
  exact hK _
def RPq (ps : List PW) (v : PV) : Prop := ∃ l : List UInt8, ps = [.agg (wdQ false), .agg (envV (Str.ofL l)), .c (.int .i64 0)] ∧ l.length ≤ 300 ∧ v = .tup [.c (slD 2 ((charsOf l false).map elC)), .agg (envV (Str.ofL l)), .c (.int .i64 0)]
noncomputable def e20 : Nat × Ext := (20, .fn (ofG RPq) [])
theorem c20 : OkE Tryz.prog e20 := fn_goE (exts := [e16, e37]) Wk.any_ok Wk.types_ok fns_ok (oks1 c16 (oks1 c37 oks0)) rfl [] rfl _ (by
  rintro ps pv ⟨l, rfl, h2, rfl⟩
  exact pattern20q _ rfl rfl rfl l h2 _ _ fun s' => ⟨[], frzV_tup (l := [.c (slD 2 ((charsOf l false).map elC)), .agg (envV (Str.ofL l)), .c (.int .i64 0)]) _ (by show ((slD 2 ((charsOf l false).map elC)).plain && _) = true; rw [slC_plain]; rfl)⟩)
theorem callR_pq {X : T Ext} (h20 : (En X).ext.get 20 = some (.fn (ofG RPq) [])) (l : List UInt8) (h2 : l.length ≤ 300) (s : St) :
    CallR (En X) 20 [.agg (cellsD (wdQ false)), .agg (cellsD (envV (Str.ofL l))), .c (.int .i64 0)] s (.tup [.c (slD 2 ((charsOf l false).map elC)).toC, .agg (cellsD (envV (Str.ofL l))), .c (.int .i64 0)]) s :=
  callR_fn (ps := [.agg (wdQ false), .agg (envV (Str.ofL l)), .c (.int .i64 0)]) (pv := .tup [.c (slD 2 ((charsOf l false).map elC)), .agg (envV (Str.ofL l)), .c (.int .i64 0)]) h20 (ofG_eq ⟨l, rfl, h2, rfl⟩ (by
    rintro v' ⟨l', h1, _, rfl⟩
    simp only [List.cons.injEq, PW.agg.injEq, and_true, true_and] at h1
    rw [envV_inj h1])) rfl
theorem text7q (X : T Ext) (hX : (En X).ext.get 7 = none) (h20 : (En X).ext.get 20 = some (.fn (ofG RPq) [])) (h21 : (En X).ext.get 21 = some (.fn (ofG RText) [])) (l : List UInt8) (h2 : l.length ≤ 300) (s : St) (K : V → St → Prop)
    (hK : ∀ s', K (.tup [.c (.str (textS (charsOf l false))), .agg (cellsD (envV (Str.ofL l))), .c (.int .i64 0)]) s') : goC (En X) 7 [.agg (cellsD (wdQ false)), .agg (cellsD (envV (Str.ofL l))), .c (.int .i64 0)] s K := by
  refine goC_body hX (kp7 X) (fn7 X) rfl (by kernel_rfl) ?_
  have hres : Tryz.f7.results.toList = [.tmp 6, .cell 7 28, .tmp 8] := rfl
  obtain ⟨e, he⟩ : ∃ e, e = envV (Str.ofL l) := ⟨_, rfl⟩
  have hel : e.length = 3 := by rw [he]; rfl
  have hec : (cellsD e).length = 3 := by rw [he]; rfl
  have hrc := fun s => callR_pq h20 l h2 s
  have hbl := chars_len l false
  have htx := fun s => callR_text h21 (slD 2 ((charsOf l false).map elC)) (charsOf l false) (isEls_slD (elC_two _)) (els_slD _ _) (by omega) (slC_plain _) s
  have htl : (textS (charsOf l false)).len ≤ 1200 := by
    have := txS_len ((charsOf l false).map Prod.fst) .nil
    rw [List.length_map] at this
    have h0 : Str.nil.len = 0 := rfl
    unfold textS
    omega
  generalize textS (charsOf l false) = tx at *
  generalize (slD 2 ((charsOf l false).map elC)).toC = dc at *
  rw [← he] at hK hrc ⊢
  have q3 := LRow.new s (cellsD (wdQ false))
  have n0 : (s.new (.row (mkRow (cellsD (wdQ false))))).nx = s.nx + 1 := St.new_nx _ _
  simp only [zEV, Nat.reduceShiftRight, Nat.reduceMod, Nat.reduceEqDiff, Nat.reduceAdd, ↓reduceIte, reduceCtorEq, nBox_eq, al28]
  generalize s.new (.row (mkRow (cellsD (wdQ false)))) = s1 at q3 n0 ⊢
  have q3' := q3.keep (new_old s1 (.row (mkRow (cellsD e))) (by omega))
  have q4 := LRow.new s1 (cellsD e)
  have n1 : (s1.new (.row (mkRow (cellsD e)))).nx = s1.nx + 1 := St.new_nx _ _
  generalize s1.new (.row (mkRow (cellsD e))) = s2 at q3' q4 n1 ⊢
  have q3'' := q3'.keep (new_old s2 (.row (mkRow [.nils, .nils, .nils])) (by omega))
  have q4' := q4.keep (new_old s2 (.row (mkRow [.nils, .nils, .nils])) (by omega))
  have q7 := LRow.new s2 [.nils, .nils, .nils]
  have n2 : (s2.new (.row (mkRow [.nils, .nils, .nils]))).nx = s2.nx + 1 := St.new_nx _ _
  generalize s2.new (.row (mkRow [.nils, .nils, .nils])) = s3 at q3'' q4' q7 n2 ⊢
  generalize hp3 : s.nx = p3 at *
  generalize hp4 : s1.nx = p4 at *
  generalize hp7 : s2.nx = p7 at *
  have l3 := ldA1 (x := (wdQ false)) rfl q3''
  have l4 := ldA3 hel q4'
  simp only [zEV, Nat.reduceShiftRight, Nat.reduceMod, Nat.reduceEqDiff, Nat.reduceAdd, ↓reduceIte, reduceCtorEq, ldh34, ldh28, l3, l4]
  refine go_call _ _ _ _ _ _ (ws := [.agg (cellsD (wdQ false)), .agg (cellsD e), .c (.int .i64 0)]) rfl (by simp only [zEA, Nat.reduceShiftRight, Nat.reduceMod, Nat.reduceEqDiff, Nat.reduceAdd, ↓reduceIte, reduceCtorEq, argsOf_cons, argsOf_nil]) ?_
  refine goC_of (hrc s3) ?_
  obtain ⟨s4, w4, r4, n4, o4⟩ := row_written s3 [.nils, .nils, .nils] (cellsD e) hec
  have z0 : ((0 : Int) = 0) = True := eq_self 0
  have hlt : ∀ look, len (En X) 9 look (.str tx) = some tx.len := fun look => len_str (ustr9 X) tx
  have z4 : ((4000 : Int) < Int.ofNat tx.len) = False := eq_false (by show ¬ (4000 : Int) < ((tx.len : Nat) : Int); omega)
  simp only [zEV, Nat.reduceShiftRight, Nat.reduceMod, Nat.reduceEqDiff, Nat.reduceAdd, ↓reduceIte, reduceCtorEq, al28, st28, hec, w4]
  refine go_call _ _ _ _ _ _ (ws := [.c dc]) rfl (by simp only [zEA, Nat.reduceShiftRight, Nat.reduceMod, Nat.reduceEqDiff, Nat.reduceAdd, ↓reduceIte, reduceCtorEq, argsOf_cons, argsOf_nil]) ?_
  refine goC_of (htx s4) ?_
  simp only [zEV, Nat.reduceShiftRight, Nat.reduceMod, Nat.reduceEqDiff, Nat.reduceAdd, ↓reduceIte, reduceCtorEq, z0, hlt, z4]
  have q7' : LRow s4 p7 [.nils, .nils, .nils] := q7.keep (o4 _ (by omega))
  refine go_drawD _ _ 3 5 [0, 0, 1, 7, 15] rfl (by kernel_rfl) (by kernel_rfl) (by kernel_rfl) ?_
  have l10 := ldA3 hel r4
  have q8 : LRow ⟨s4.h, s4.nx + 5⟩ p7 [.nils, .nils, .nils] := q7'.keep rfl
  obtain ⟨s5, w5, r5, n5, o5⟩ := q8.over (r := cellsD e) hec
  have hsame : V.same (.w (.agg (cellsD e))) (.w (.agg (cellsD e))) = true := sameL_toC e
  simp only [zEV, Nat.reduceShiftRight, Nat.reduceMod, Nat.reduceEqDiff, Nat.reduceAdd, ↓reduceIte, reduceCtorEq, zDG, Nat.reduceOr, Nat.reduceAnd, Nat.reduceShiftLeft, Nat.reduceLT, ldh28, l10, hsame]
  rw [dt_B]
  refine dtB_storeL q8 rfl (b := p7) (o := 0) (w := .agg (cellsD e)) (s' := s5) (by simp only [zEA, Nat.reduceShiftRight, Nat.reduceMod, Nat.reduceEqDiff, Nat.reduceAdd, ↓reduceIte, reduceCtorEq]) (by simp only [zEA, Nat.reduceShiftRight, Nat.reduceMod, Nat.reduceEqDiff, Nat.reduceAdd, ↓reduceIte, reduceCtorEq]) (by rw [st28, show (W.agg (cellsD e)).cells = cellsD e from rfl, if_pos hec]; exact w5) ?_
  rw [dtB_assign, dtB_nil]
  have l5 := ldA3 hel r5
  simp only [zEV, Nat.reduceShiftRight, Nat.reduceMod, Nat.reduceEqDiff, Nat.reduceAdd, ↓reduceIte, reduceCtorEq, ldh28, l5, hres]
  exact hK _
def RTq (ps : List PW) (v : PV) : Prop := ∃ l : List UInt8, ps = [.agg (wdQ false), .agg (envV (Str.ofL l)), .c (.int .i64 0)] ∧ l.length ≤ 300 ∧ v = .tup [.c (.str (textS (charsOf l false))), .agg (envV (Str.ofL l)), .c (.int .i64 0)]
noncomputable def e7 : Nat × Ext := (7, .fn (ofG RTq) [])
theorem c7 : OkE Tryz.prog e7 := fn_goE (exts := [e20, e21]) Wk.any_ok Wk.types_ok fns_ok (oks1 c20 (oks1 c21 oks0)) rfl [] rfl _ (by
  rintro ps pv ⟨l, rfl, h2, rfl⟩
  exact text7q _ rfl rfl rfl l h2 _ _ fun s' => ⟨[], frzV_tup (l := [.c (.str (textS (charsOf l false))), .agg (envV (Str.ofL l)), .c (.int .i64 0)]) _ rfl⟩)
theorem callR_tq {X : T Ext} (h7 : (En X).ext.get 7 = some (.fn (ofG RTq) [])) (l : List UInt8) (h2 : l.length ≤ 300) (s : St) :
    CallR (En X) 7 [.agg (cellsD (wdQ false)), .agg (cellsD (envV (Str.ofL l))), .c (.int .i64 0)] s (.tup [.c (.str (textS (charsOf l false))), .agg (cellsD (envV (Str.ofL l))), .c (.int .i64 0)]) s :=
  callR_fn (ps := [.agg (wdQ false), .agg (envV (Str.ofL l)), .c (.int .i64 0)]) (pv := .tup [.c (.str (textS (charsOf l false))), .agg (envV (Str.ofL l)), .c (.int .i64 0)]) h7 (ofG_eq ⟨l, rfl, h2, rfl⟩ (by
    rintro v' ⟨l', h1, _, rfl⟩
    simp only [List.cons.injEq, PW.agg.injEq, and_true, true_and] at h1
    rw [envV_inj h1])) rfl
def RFq (ps : List PW) (v : PV) : Prop := ∃ q : Bool, ps = [.c (.str (txQ q))] ∧ v = .w (.agg (wdQ q))
noncomputable def e6 : Nat × Ext := (6, .fn (ofG RFq) Wk.gs)
theorem c6 : OkE Tryz.prog e6 := ext_frz Wk.any_ok Wk.types_ok Wk.fns_ok Wk.extsM_ok Wk.gs Wk.gs_ok (by kernel_rfl) _ 20 2000 fun ps pv h => by
  obtain ⟨q, rfl, rfl⟩ := ofG_some h
  cases q with
  | true => exact first_q
  | false => exact first_u
theorem txQ_inj {a b : Bool} (h : txQ a = txQ b) : a = b := by
  have h := congrArg Str.len h
  cases a <;> cases b <;> first | rfl | exact absurd h (by decide)
theorem callR_fq {X : T Ext} (h : (En X).ext.get 6 = some (.fn (ofG RFq) Wk.gs)) (q : Bool) (s : St) (hg : rowsAre s.h.get Wk.gs = true) : CallR (En X) 6 [.c (.str (txQ q))] s (.w (.agg (cellsD (wdQ q)))) s :=
  callR_fn_g (ps := [.c (.str (txQ q))]) (pv := .w (.agg (wdQ q))) h hg (ofG_eq ⟨q, rfl, rfl⟩ (by
    rintro v' ⟨q', h1, rfl⟩
    simp only [List.cons.injEq, PW.c.injEq, D.str.injEq, and_true] at h1
    rw [txQ_inj h1])) (by cases q <;> rfl)
def pvF (l : List UInt8) (q : Bool) : List PW := if (TS l q).length ≤ 100 then [.c (slD 1 (tsL (TS l q))), .agg (envV (Str.ofL l)), .c (.int .i64 0)] else [.c .nils, .agg (envV (Str.ofL l)), .c (.int .i64 3)]
def RFd (ps : List PW) (v : PV) : Prop := ∃ (q : Bool) (l : List UInt8), ps = [.c (.sl 1 [wdQ q]), .agg (envV (Str.ofL l)), .c (.int .i64 0), .c .nils] ∧ l.length ≤ 300 ∧ v = .tup (pvF l q)
noncomputable def e5 : Nat × Ext := (5, .fn (ofG RFd) [])
theorem env_frz (look : Look) (v : Str) : mapO (frzC look 2000) (cellsD (envV v)) = some (envV v, []) := mapO_plain look 2000 _ rfl
theorem c5 : OkE Tryz.prog e5 := fn_goE (exts := [e16, e17, e18]) Wk.any_ok Wk.types_ok fns_ok (oks1 c16 (oks1 c17 (oks1 c18 oks0))) rfl [] rfl _ (by
  rintro ps pv ⟨q, l, rfl, h2, rfl⟩
  refine fields5 _ rfl rfl rfl rfl l h2 q _ _ (fun hle c s' h => ?_) (fun hgt s' => ?_)
  · obtain ⟨bs, hf, _⟩ := SlAt_frzN h (tsL_plain _) (Nat.le_refl 1) 1999
    refine ⟨bs ++ ([] ++ ([] ++ [])), ?_⟩
    unfold pvF
    rw [if_pos hle]
    have h1 : frzW s'.h.get (.c c) = some (.c (slD 1 (tsL (TS l q))), bs) := by unfold frzW; simp only []; rw [hf]
    have h2 : frzW s'.h.get (.agg (cellsD (envV (Str.ofL l)))) = some (.agg (envV (Str.ofL l)), []) := by unfold frzW; simp only []; rw [env_frz]
    have h3 : frzW s'.h.get (.c (.int .i64 0)) = some (.c (.int .i64 0), []) := rfl
    simp only [frzV, frzWs, h1, h2, h3]
  · refine ⟨[], ?_⟩
    unfold pvF
    rw [if_neg (by omega)]
    exact frzV_tup (l := [.c .nils, .agg (envV (Str.ofL l)), .c (.int .i64 3)]) _ rfl)
end Ws
