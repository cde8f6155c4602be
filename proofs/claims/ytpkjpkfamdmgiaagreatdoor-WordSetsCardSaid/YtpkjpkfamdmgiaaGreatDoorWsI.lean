import Derived.Test.YtpkjpkfamdmgiaaGreatDoorWsH
namespace Ws
open Go Go.Proofs Ev
set_option linter.unusedVariables false
set_option linter.unusedSimpArgs false
set_option linter.unnecessarySimpa false
set_option maxRecDepth 100000
theorem lit_0 : Str.of { data := #[] } = Str.ofL [] := of_lit []
theorem slC_plain (l : List (Nat × Bool)) : (slD 2 (l.map elC)).plain = true := slD_plain _ _
def RPat (ps : List PW) (v : PV) : Prop := ∃ l : List UInt8, ps = [.agg wordD, .agg (envD (Str.ofL l)), .c (.int .i64 0)] ∧ 1 ≤ l.length ∧ l.length ≤ 100 ∧ v = .tup [.c (slD 2 ((bothC l).map elC)), .agg (envD (Str.ofL l)), .c (.int .i64 0)]
noncomputable def e20 : Nat × Ext := (20, .fn (ofG RPat) [])
theorem c20 : OkE Tryz.prog e20 := fn_goE (exts := [e16, e37]) Wk.any_ok Wk.types_ok fns_ok (oks1 c16 (oks1 c37 oks0)) rfl [] rfl _ (by
  rintro ps pv ⟨l, rfl, h1, h2, rfl⟩
  refine pattern20 _ rfl rfl rfl l h1 h2 _ _ fun s' => ⟨[], frzV_tup (l := [.c (slD 2 ((bothC l).map elC)), .agg (envD (Str.ofL l)), .c (.int .i64 0)]) _ ?_⟩
  simp only [List.all_cons, List.all_nil, PW.plain, slC_plain]; rfl)
theorem callR_pat {X : T Ext} (h20 : (En X).ext.get 20 = some (.fn (ofG RPat) [])) (l : List UInt8) (h1 : 1 ≤ l.length) (h2 : l.length ≤ 100) (s : St) :
    CallR (En X) 20 [.agg (cellsD wordD), .agg (cellsD (envD (Str.ofL l))), .c (.int .i64 0)] s (.tup [.c (slD 2 ((bothC l).map elC)).toC, .agg (cellsD (envD (Str.ofL l))), .c (.int .i64 0)]) s :=
  callR_fn (ps := [.agg wordD, .agg (envD (Str.ofL l)), .c (.int .i64 0)]) (pv := .tup [.c (slD 2 ((bothC l).map elC)), .agg (envD (Str.ofL l)), .c (.int .i64 0)]) h20 (ofG_eq ⟨l, rfl, h1, h2, rfl⟩ (by
    rintro v' ⟨l', h1, _, _, rfl⟩
    simp only [List.cons.injEq, PW.agg.injEq, and_true, true_and] at h1
    rw [env_inj h1])) rfl
theorem text7 (X : T Ext) (hX : (En X).ext.get 7 = none) (h20 : (En X).ext.get 20 = some (.fn (ofG RPat) [])) (h21 : (En X).ext.get 21 = some (.fn (ofG RText) [])) (l : List UInt8) (h1 : 1 ≤ l.length) (h2 : l.length ≤ 100) (s : St) (K : V → St → Prop)
    (hK : ∀ s', K (.tup [.c (.str (textS (bothC l))), .agg (cellsD (envD (Str.ofL l))), .c (.int .i64 0)]) s') : goC (En X) 7 [.agg (cellsD wordD), .agg (cellsD (envD (Str.ofL l))), .c (.int .i64 0)] s K := by
  refine goC_body hX (kp7 X) (fn7 X) rfl (by kernel_rfl) ?_
  have hres : Tryz.f7.results.toList = [.tmp 6, .cell 7 28, .tmp 8] := rfl
  obtain ⟨e, he⟩ : ∃ e, e = envD (Str.ofL l) := ⟨_, rfl⟩
  have hel : e.length = 3 := by rw [he]; rfl
  have hec : (cellsD e).length = 3 := by rw [he]; rfl
  have hrc := fun s => callR_pat h20 l h1 h2 s
  have hbl := both_len h2
  have htx := fun s => callR_text h21 (slD 2 ((bothC l).map elC)) (bothC l) (isEls_slD (elC_two _)) (els_slD _ _) (by omega) (slC_plain _) s
  have htl : (textS (bothC l)).len ≤ 800 := by
    have := txS_len ((bothC l).map Prod.fst) .nil
    rw [List.length_map] at this
    have h0 : Str.nil.len = 0 := rfl
    unfold textS
    omega
  generalize textS (bothC l) = tx at *
  generalize (slD 2 ((bothC l).map elC)).toC = dc at *
  rw [← he] at hK hrc ⊢
  have q3 := LRow.new s (cellsD wordD)
  have n0 : (s.new (.row (mkRow (cellsD wordD)))).nx = s.nx + 1 := St.new_nx _ _
  simp only [go_seq, go_region, go_move, go_assign, go_len, go_binOp, go_block, go_scope, go_label, go_skip, go_exit, go_ret, go_ops_nil, go_load, go_fieldAddr, go_unOp, go_pick, go_indexAddr, go_slice, go_append, go_alloc, go_box, go_store, go_buildSlice, go_index, go_field, go_extract, go_build, go_nilCheck, go_lookup, go_mapUpdate, go_b, go_nil, goE_nil, goE_nm, goE_ex_c, goE_ret_c, goE_ex_b, goE_ret_b, go_guard, go_lookup, go_mapUpdate, go_cond, goB_tt, goB_ff, goG_tt, goG_ff, goO_some, goV_ok, goN_some, goV_okR, opnd_tmp, opnd_int, opnd_bool, opnd_nils, opnd_nilp, opnd_str, A.get_putP, A.get_baseP, L.get_consP, L.get_setP, L.get_nilP, tbit_eqP, kept_true, kept_false, A.keep_put, A.keep_base, A.flush_put, A.flush_base, putA_some, putA_none, argsA_cons, argsA_nil, toC_vc, toC_c, toW_vc, toW_w, toI_vc, toI_c, toB_vc, toB_c, toP_vc, toP_c, opC_tmp, opW_tmp, opI_tmp, opP_tmp, opC_int, opW_int, opI_int, opW_bool, opC_bool, opW_nils, opW_nilp, opC_nils, opW_str, rBin_eq, rUn_eq, rPick_eq, rLen_eq, rIndexAddr_eq, rFieldAddr_eq, rLoad_eq, aAppend_eq, aApp_eq, aStore_eq, retU_some, retCS_ok, retW_some, retC_some, b_lss, b_leq, b_gtr, b_geq, b_eql, b_neq, b_add, b_sub, b_mul, b_seql, b_sneq, u_not, goR_nm, goR_ret, resOf_nil, resOf_cons, resOne_tmp, tupOf_one, guardOk_eq, boolIs_t, boolIs_f, boolIs_t', boolIs_f', boolIs_skip, nBox_eq, rExtract_eq, resOne_cell, tupOf_two, cells_c, cells_agg, true_implies, false_implies, and_true, true_and, Bool.not_false, Bool.not_true, Bool.true_eq_false, Bool.false_eq_true, decide_eq_true_eq, decide_eq_false_iff_not, Bool.not_eq_true', Bool.not_eq_false', decide_true, decide_false, Nat.reduceShiftRight, Nat.reduceMod, Nat.reduceEqDiff, Nat.reduceAdd, ↓reduceIte, reduceCtorEq, List.getElem?_cons_zero, List.getElem?_cons_succ, nBox_eq, al28]
  generalize s.new (.row (mkRow (cellsD wordD))) = s1 at q3 n0 ⊢
  have q3' := q3.keep (new_old s1 (.row (mkRow (cellsD e))) (by omega))
  have q4 := LRow.new s1 (cellsD e)
  have n1 : (s1.new (.row (mkRow (cellsD e)))).nx = s1.nx + 1 := St.new_nx _ _
  generalize s1.new (.row (mkRow (cellsD e))) = s2 at q3' q4 n1 ⊢
  have q3'' := q3'.keep (new_old s2 (.row (mkRow [.nils, .nils, .nils])) (by omega))
  have q4' := q4.keep (new_old s2 (.row (mkRow [.nils, .nils, .nils])) (by omega))
  have q7 := LRow.new s2 [.nils, .nils, .nils]
  have n2 : (s2.new (.row (mkRow [.nils, .nils, .nils]))).nx = s2.nx + 1 := St.new_nx _ _
  generalize s2.new (.row (mkRow [.nils, .nils, .nils])) = s3 at q3'' q4' q7 n2 ⊢
  generalize hp3 : s.nx = p3 at *
  generalize hp4 : s1.nx = p4 at *
  generalize hp7 : s2.nx = p7 at *
  have l3 := ldA1 (x := wordD) rfl q3''
  have l4 := ldA3 hel q4'
  simp only [go_seq, go_region, go_move, go_assign, go_len, go_binOp, go_block, go_scope, go_label, go_skip, go_exit, go_ret, go_ops_nil, go_load, go_fieldAddr, go_unOp, go_pick, go_indexAddr, go_slice, go_append, go_alloc, go_box, go_store, go_buildSlice, go_index, go_field, go_extract, go_build, go_nilCheck, go_lookup, go_mapUpdate, go_b, go_nil, goE_nil, goE_nm, goE_ex_c, goE_ret_c, goE_ex_b, goE_ret_b, go_guard, go_lookup, go_mapUpdate, go_cond, goB_tt, goB_ff, goG_tt, goG_ff, goO_some, goV_ok, goN_some, goV_okR, opnd_tmp, opnd_int, opnd_bool, opnd_nils, opnd_nilp, opnd_str, A.get_putP, A.get_baseP, L.get_consP, L.get_setP, L.get_nilP, tbit_eqP, kept_true, kept_false, A.keep_put, A.keep_base, A.flush_put, A.flush_base, putA_some, putA_none, argsA_cons, argsA_nil, toC_vc, toC_c, toW_vc, toW_w, toI_vc, toI_c, toB_vc, toB_c, toP_vc, toP_c, opC_tmp, opW_tmp, opI_tmp, opP_tmp, opC_int, opW_int, opI_int, opW_bool, opC_bool, opW_nils, opW_nilp, opC_nils, opW_str, rBin_eq, rUn_eq, rPick_eq, rLen_eq, rIndexAddr_eq, rFieldAddr_eq, rLoad_eq, aAppend_eq, aApp_eq, aStore_eq, retU_some, retCS_ok, retW_some, retC_some, b_lss, b_leq, b_gtr, b_geq, b_eql, b_neq, b_add, b_sub, b_mul, b_seql, b_sneq, u_not, goR_nm, goR_ret, resOf_nil, resOf_cons, resOne_tmp, tupOf_one, guardOk_eq, boolIs_t, boolIs_f, boolIs_t', boolIs_f', boolIs_skip, nBox_eq, rExtract_eq, resOne_cell, tupOf_two, cells_c, cells_agg, true_implies, false_implies, and_true, true_and, Bool.not_false, Bool.not_true, Bool.true_eq_false, Bool.false_eq_true, decide_eq_true_eq, decide_eq_false_iff_not, Bool.not_eq_true', Bool.not_eq_false', decide_true, decide_false, Nat.reduceShiftRight, Nat.reduceMod, Nat.reduceEqDiff, Nat.reduceAdd, ↓reduceIte, reduceCtorEq, List.getElem?_cons_zero, List.getElem?_cons_succ, ldh34, ldh28, l3, l4]
  refine go_call _ _ _ _ _ _ (ws := [.agg (cellsD wordD), .agg (cellsD e), .c (.int .i64 0)]) rfl (by simp only [opnd_tmp, opnd_int, opnd_bool, opnd_nils, opnd_nilp, opnd_str, A.get_putP, A.get_baseP, L.get_consP, L.get_setP, L.get_nilP, tbit_eqP, kept_true, kept_false, A.keep_put, A.keep_base, A.flush_put, A.flush_base, putA_some, putA_none, argsA_cons, argsA_nil, toC_vc, toC_c, toW_vc, toW_w, toI_vc, toI_c, toB_vc, toB_c, toP_vc, toP_c, opC_tmp, opW_tmp, opI_tmp, opP_tmp, opC_int, opW_int, opI_int, opW_bool, opC_bool, opW_nils, opW_nilp, opC_nils, opW_str, cells_c, cells_agg, Bool.not_false, Bool.not_true, Bool.true_eq_false, Bool.false_eq_true, decide_eq_true_eq, decide_eq_false_iff_not, Bool.not_eq_true', Bool.not_eq_false', decide_true, decide_false, Nat.reduceShiftRight, Nat.reduceMod, Nat.reduceEqDiff, Nat.reduceAdd, ↓reduceIte, reduceCtorEq, List.getElem?_cons_zero, List.getElem?_cons_succ, argsOf_cons, argsOf_nil]) ?_
  refine goC_of (hrc s3) ?_
  obtain ⟨s4, w4, r4, n4, o4⟩ := row_written s3 [.nils, .nils, .nils] (cellsD e) hec
  have z0 : ((0 : Int) = 0) = True := eq_self 0
  have hlt : ∀ look, len (En X) 9 look (.str tx) = some tx.len := fun look => len_str (ustr9 X) tx
  have z4 : ((4000 : Int) < Int.ofNat tx.len) = False := eq_false (by show ¬ (4000 : Int) < ((tx.len : Nat) : Int); omega)
  simp only [go_seq, go_region, go_move, go_assign, go_len, go_binOp, go_block, go_scope, go_label, go_skip, go_exit, go_ret, go_ops_nil, go_load, go_fieldAddr, go_unOp, go_pick, go_indexAddr, go_slice, go_append, go_alloc, go_box, go_store, go_buildSlice, go_index, go_field, go_extract, go_build, go_nilCheck, go_lookup, go_mapUpdate, go_b, go_nil, goE_nil, goE_nm, goE_ex_c, goE_ret_c, goE_ex_b, goE_ret_b, go_guard, go_lookup, go_mapUpdate, go_cond, goB_tt, goB_ff, goG_tt, goG_ff, goO_some, goV_ok, goN_some, goV_okR, opnd_tmp, opnd_int, opnd_bool, opnd_nils, opnd_nilp, opnd_str, A.get_putP, A.get_baseP, L.get_consP, L.get_setP, L.get_nilP, tbit_eqP, kept_true, kept_false, A.keep_put, A.keep_base, A.flush_put, A.flush_base, putA_some, putA_none, argsA_cons, argsA_nil, toC_vc, toC_c, toW_vc, toW_w, toI_vc, toI_c, toB_vc, toB_c, toP_vc, toP_c, opC_tmp, opW_tmp, opI_tmp, opP_tmp, opC_int, opW_int, opI_int, opW_bool, opC_bool, opW_nils, opW_nilp, opC_nils, opW_str, rBin_eq, rUn_eq, rPick_eq, rLen_eq, rIndexAddr_eq, rFieldAddr_eq, rLoad_eq, aAppend_eq, aApp_eq, aStore_eq, retU_some, retCS_ok, retW_some, retC_some, b_lss, b_leq, b_gtr, b_geq, b_eql, b_neq, b_add, b_sub, b_mul, b_seql, b_sneq, u_not, goR_nm, goR_ret, resOf_nil, resOf_cons, resOne_tmp, tupOf_one, guardOk_eq, boolIs_t, boolIs_f, boolIs_t', boolIs_f', boolIs_skip, nBox_eq, rExtract_eq, resOne_cell, tupOf_two, cells_c, cells_agg, true_implies, false_implies, and_true, true_and, Bool.not_false, Bool.not_true, Bool.true_eq_false, Bool.false_eq_true, decide_eq_true_eq, decide_eq_false_iff_not, Bool.not_eq_true', Bool.not_eq_false', decide_true, decide_false, Nat.reduceShiftRight, Nat.reduceMod, Nat.reduceEqDiff, Nat.reduceAdd, ↓reduceIte, reduceCtorEq, List.getElem?_cons_zero, List.getElem?_cons_succ, al28, st28, hec, w4]
  refine go_call _ _ _ _ _ _ (ws := [.c dc]) rfl (by simp only [opnd_tmp, opnd_int, opnd_bool, opnd_nils, opnd_nilp, opnd_str, A.get_putP, A.get_baseP, L.get_consP, L.get_setP, L.get_nilP, tbit_eqP, kept_true, kept_false, A.keep_put, A.keep_base, A.flush_put, A.flush_base, putA_some, putA_none, argsA_cons, argsA_nil, toC_vc, toC_c, toW_vc, toW_w, toI_vc, toI_c, toB_vc, toB_c, toP_vc, toP_c, opC_tmp, opW_tmp, opI_tmp, opP_tmp, opC_int, opW_int, opI_int, opW_bool, opC_bool, opW_nils, opW_nilp, opC_nils, opW_str, cells_c, cells_agg, Bool.not_false, Bool.not_true, Bool.true_eq_false, Bool.false_eq_true, decide_eq_true_eq, decide_eq_false_iff_not, Bool.not_eq_true', Bool.not_eq_false', decide_true, decide_false, Nat.reduceShiftRight, Nat.reduceMod, Nat.reduceEqDiff, Nat.reduceAdd, ↓reduceIte, reduceCtorEq, List.getElem?_cons_zero, List.getElem?_cons_succ, argsOf_cons, argsOf_nil]) ?_
  refine goC_of (htx s4) ?_
  simp only [go_seq, go_region, go_move, go_assign, go_len, go_binOp, go_block, go_scope, go_label, go_skip, go_exit, go_ret, go_ops_nil, go_load, go_fieldAddr, go_unOp, go_pick, go_indexAddr, go_slice, go_append, go_alloc, go_box, go_store, go_buildSlice, go_index, go_field, go_extract, go_build, go_nilCheck, go_lookup, go_mapUpdate, go_b, go_nil, goE_nil, goE_nm, goE_ex_c, goE_ret_c, goE_ex_b, goE_ret_b, go_guard, go_lookup, go_mapUpdate, go_cond, goB_tt, goB_ff, goG_tt, goG_ff, goO_some, goV_ok, goN_some, goV_okR, opnd_tmp, opnd_int, opnd_bool, opnd_nils, opnd_nilp, opnd_str, A.get_putP, A.get_baseP, L.get_consP, L.get_setP, L.get_nilP, tbit_eqP, kept_true, kept_false, A.keep_put, A.keep_base, A.flush_put, A.flush_base, putA_some, putA_none, argsA_cons, argsA_nil, toC_vc, toC_c, toW_vc, toW_w, toI_vc, toI_c, toB_vc, toB_c, toP_vc, toP_c, opC_tmp, opW_tmp, opI_tmp, opP_tmp, opC_int, opW_int, opI_int, opW_bool, opC_bool, opW_nils, opW_nilp, opC_nils, opW_str, rBin_eq, rUn_eq, rPick_eq, rLen_eq, rIndexAddr_eq, rFieldAddr_eq, rLoad_eq, aAppend_eq, aApp_eq, aStore_eq, retU_some, retCS_ok, retW_some, retC_some, b_lss, b_leq, b_gtr, b_geq, b_eql, b_neq, b_add, b_sub, b_mul, b_seql, b_sneq, u_not, goR_nm, goR_ret, resOf_nil, resOf_cons, resOne_tmp, tupOf_one, guardOk_eq, boolIs_t, boolIs_f, boolIs_t', boolIs_f', boolIs_skip, nBox_eq, rExtract_eq, resOne_cell, tupOf_two, cells_c, cells_agg, true_implies, false_implies, and_true, true_and, Bool.not_false, Bool.not_true, Bool.true_eq_false, Bool.false_eq_true, decide_eq_true_eq, decide_eq_false_iff_not, Bool.not_eq_true', Bool.not_eq_false', decide_true, decide_false, Nat.reduceShiftRight, Nat.reduceMod, Nat.reduceEqDiff, Nat.reduceAdd, ↓reduceIte, reduceCtorEq, List.getElem?_cons_zero, List.getElem?_cons_succ, z0, hlt, z4]
  have q7' : LRow s4 p7 [.nils, .nils, .nils] := q7.keep (o4 _ (by omega))
  refine go_drawD _ _ 3 5 [0, 0, 1, 7, 15] rfl (by kernel_rfl) (by kernel_rfl) (by kernel_rfl) ?_
  have l10 := ldA3 hel r4
  have q8 : LRow ⟨s4.h, s4.nx + 5⟩ p7 [.nils, .nils, .nils] := q7'.keep rfl
  obtain ⟨s5, w5, r5, n5, o5⟩ := q8.over (r := cellsD e) hec
  have hsame : V.same (.w (.agg (cellsD e))) (.w (.agg (cellsD e))) = true := sameL_toC e
  simp only [go_seq, go_region, go_move, go_assign, go_len, go_binOp, go_block, go_scope, go_label, go_skip, go_exit, go_ret, go_ops_nil, go_load, go_fieldAddr, go_unOp, go_pick, go_indexAddr, go_slice, go_append, go_alloc, go_box, go_store, go_buildSlice, go_index, go_field, go_extract, go_build, go_nilCheck, go_lookup, go_mapUpdate, go_b, go_nil, goE_nil, goE_nm, goE_ex_c, goE_ret_c, goE_ex_b, goE_ret_b, go_guard, go_lookup, go_mapUpdate, go_cond, goB_tt, goB_ff, goG_tt, goG_ff, goO_some, goV_ok, goN_some, goV_okR, opnd_tmp, opnd_int, opnd_bool, opnd_nils, opnd_nilp, opnd_str, A.get_putP, A.get_baseP, L.get_consP, L.get_setP, L.get_nilP, tbit_eqP, kept_true, kept_false, A.keep_put, A.keep_base, A.flush_put, A.flush_base, putA_some, putA_none, argsA_cons, argsA_nil, toC_vc, toC_c, toW_vc, toW_w, toI_vc, toI_c, toB_vc, toB_c, toP_vc, toP_c, opC_tmp, opW_tmp, opI_tmp, opP_tmp, opC_int, opW_int, opI_int, opW_bool, opC_bool, opW_nils, opW_nilp, opC_nils, opW_str, rBin_eq, rUn_eq, rPick_eq, rLen_eq, rIndexAddr_eq, rFieldAddr_eq, rLoad_eq, aAppend_eq, aApp_eq, aStore_eq, retU_some, retCS_ok, retW_some, retC_some, b_lss, b_leq, b_gtr, b_geq, b_eql, b_neq, b_add, b_sub, b_mul, b_seql, b_sneq, u_not, goR_nm, goR_ret, resOf_nil, resOf_cons, resOne_tmp, tupOf_one, guardOk_eq, boolIs_t, boolIs_f, boolIs_t', boolIs_f', boolIs_skip, nBox_eq, rExtract_eq, resOne_cell, tupOf_two, cells_c, cells_agg, true_implies, false_implies, and_true, true_and, Bool.not_false, Bool.not_true, Bool.true_eq_false, Bool.false_eq_true, decide_eq_true_eq, decide_eq_false_iff_not, Bool.not_eq_true', Bool.not_eq_false', decide_true, decide_false, Nat.reduceShiftRight, Nat.reduceMod, Nat.reduceEqDiff, Nat.reduceAdd, ↓reduceIte, reduceCtorEq, List.getElem?_cons_zero, List.getElem?_cons_succ, dg_nil, dg_guard, dg_move, dg_assign, dg_load, dg_len, dg_slice, dg_fieldAddr, dg_indexAddr, dg_binOp, dg_pick, dg_unOp, dg_extract, dg_buildSlice, dg_alloc, dg_store, dg_append, dgO_some, dgS_some, dgN_some, dgV_ok, dgG_tt, dgG_ff, backs_nil, backs_cons, fores_nil, fores_cons, dt_nil, dt_assign, lor_eq, land_eq, shl_eq, nbeq_eq, Nat.reduceOr, Nat.reduceAnd, Nat.reduceShiftLeft, again_eq, V_same_toC, V_same_dat, tbit_eqP, Nat.reduceLT, Nat.reduceShiftRight, Nat.reduceMod, or_true, true_or, or_false, false_or, List.take_succ_cons, List.take_zero, List.drop_succ_cons, List.drop_zero, Nat.add_zero, ldh28, l10, hsame]
  rw [dt_B]
  refine dtB_storeL q8 rfl (b := p7) (o := 0) (w := .agg (cellsD e)) (s' := s5) (by simp only [opnd_tmp, opnd_int, opnd_bool, opnd_nils, opnd_nilp, opnd_str, A.get_putP, A.get_baseP, L.get_consP, L.get_setP, L.get_nilP, tbit_eqP, kept_true, kept_false, A.keep_put, A.keep_base, A.flush_put, A.flush_base, putA_some, putA_none, argsA_cons, argsA_nil, toC_vc, toC_c, toW_vc, toW_w, toI_vc, toI_c, toB_vc, toB_c, toP_vc, toP_c, opC_tmp, opW_tmp, opI_tmp, opP_tmp, opC_int, opW_int, opI_int, opW_bool, opC_bool, opW_nils, opW_nilp, opC_nils, opW_str, cells_c, cells_agg, Bool.not_false, Bool.not_true, Bool.true_eq_false, Bool.false_eq_true, decide_eq_true_eq, decide_eq_false_iff_not, Bool.not_eq_true', Bool.not_eq_false', decide_true, decide_false, Nat.reduceShiftRight, Nat.reduceMod, Nat.reduceEqDiff, Nat.reduceAdd, ↓reduceIte, reduceCtorEq, List.getElem?_cons_zero, List.getElem?_cons_succ]) (by simp only [opnd_tmp, opnd_int, opnd_bool, opnd_nils, opnd_nilp, opnd_str, A.get_putP, A.get_baseP, L.get_consP, L.get_setP, L.get_nilP, tbit_eqP, kept_true, kept_false, A.keep_put, A.keep_base, A.flush_put, A.flush_base, putA_some, putA_none, argsA_cons, argsA_nil, toC_vc, toC_c, toW_vc, toW_w, toI_vc, toI_c, toB_vc, toB_c, toP_vc, toP_c, opC_tmp, opW_tmp, opI_tmp, opP_tmp, opC_int, opW_int, opI_int, opW_bool, opC_bool, opW_nils, opW_nilp, opC_nils, opW_str, cells_c, cells_agg, Bool.not_false, Bool.not_true, Bool.true_eq_false, Bool.false_eq_true, decide_eq_true_eq, decide_eq_false_iff_not, Bool.not_eq_true', Bool.not_eq_false', decide_true, decide_false, Nat.reduceShiftRight, Nat.reduceMod, Nat.reduceEqDiff, Nat.reduceAdd, ↓reduceIte, reduceCtorEq, List.getElem?_cons_zero, List.getElem?_cons_succ]) (by rw [st28, show (W.agg (cellsD e)).cells = cellsD e from rfl, if_pos hec]; exact w5) ?_
  rw [dtB_assign, dtB_nil]
  have l5 := ldA3 hel r5
  simp only [go_seq, go_region, go_move, go_assign, go_len, go_binOp, go_block, go_scope, go_label, go_skip, go_exit, go_ret, go_ops_nil, go_load, go_fieldAddr, go_unOp, go_pick, go_indexAddr, go_slice, go_append, go_alloc, go_box, go_store, go_buildSlice, go_index, go_field, go_extract, go_build, go_nilCheck, go_lookup, go_mapUpdate, go_b, go_nil, goE_nil, goE_nm, goE_ex_c, goE_ret_c, goE_ex_b, goE_ret_b, go_guard, go_lookup, go_mapUpdate, go_cond, goB_tt, goB_ff, goG_tt, goG_ff, goO_some, goV_ok, goN_some, goV_okR, opnd_tmp, opnd_int, opnd_bool, opnd_nils, opnd_nilp, opnd_str, A.get_putP, A.get_baseP, L.get_consP, L.get_setP, L.get_nilP, tbit_eqP, kept_true, kept_false, A.keep_put, A.keep_base, A.flush_put, A.flush_base, putA_some, putA_none, argsA_cons, argsA_nil, toC_vc, toC_c, toW_vc, toW_w, toI_vc, toI_c, toB_vc, toB_c, toP_vc, toP_c, opC_tmp, opW_tmp, opI_tmp, opP_tmp, opC_int, opW_int, opI_int, opW_bool, opC_bool, opW_nils, opW_nilp, opC_nils, opW_str, rBin_eq, rUn_eq, rPick_eq, rLen_eq, rIndexAddr_eq, rFieldAddr_eq, rLoad_eq, aAppend_eq, aApp_eq, aStore_eq, retU_some, retCS_ok, retW_some, retC_some, b_lss, b_leq, b_gtr, b_geq, b_eql, b_neq, b_add, b_sub, b_mul, b_seql, b_sneq, u_not, goR_nm, goR_ret, resOf_nil, resOf_cons, resOne_tmp, tupOf_one, guardOk_eq, boolIs_t, boolIs_f, boolIs_t', boolIs_f', boolIs_skip, nBox_eq, rExtract_eq, resOne_cell, tupOf_two, cells_c, cells_agg, true_implies, false_implies, and_true, true_and, Bool.not_false, Bool.not_true, Bool.true_eq_false, Bool.false_eq_true, decide_eq_true_eq, decide_eq_false_iff_not, Bool.not_eq_true', Bool.not_eq_false', decide_true, decide_false, Nat.reduceShiftRight, Nat.reduceMod, Nat.reduceEqDiff, Nat.reduceAdd, ↓reduceIte, reduceCtorEq, List.getElem?_cons_zero, List.getElem?_cons_succ, ldh28, l5, hres]
  exact hK _
def RTextW (ps : List PW) (v : PV) : Prop := ∃ l : List UInt8, ps = [.agg wordD, .agg (envD (Str.ofL l)), .c (.int .i64 0)] ∧ 1 ≤ l.length ∧ l.length ≤ 100 ∧ v = .tup [.c (.str (textS (bothC l))), .agg (envD (Str.ofL l)), .c (.int .i64 0)]
noncomputable def e7 : Nat × Ext := (7, .fn (ofG RTextW) [])
theorem c7 : OkE Tryz.prog e7 := fn_goE (exts := [e20, e21]) Wk.any_ok Wk.types_ok fns_ok (oks1 c20 (oks1 c21 oks0)) rfl [] rfl _ (by
  rintro ps pv ⟨l, rfl, h1, h2, rfl⟩
  exact text7 _ rfl rfl rfl l h1 h2 _ _ fun s' => ⟨[], frzV_tup (l := [.c (.str (textS (bothC l))), .agg (envD (Str.ofL l)), .c (.int .i64 0)]) _ rfl⟩)
theorem callR_textw {X : T Ext} (h7 : (En X).ext.get 7 = some (.fn (ofG RTextW) [])) (l : List UInt8) (h1 : 1 ≤ l.length) (h2 : l.length ≤ 100) (s : St) :
    CallR (En X) 7 [.agg (cellsD wordD), .agg (cellsD (envD (Str.ofL l))), .c (.int .i64 0)] s (.tup [.c (.str (textS (bothC l))), .agg (cellsD (envD (Str.ofL l))), .c (.int .i64 0)]) s :=
  callR_fn (ps := [.agg wordD, .agg (envD (Str.ofL l)), .c (.int .i64 0)]) (pv := .tup [.c (.str (textS (bothC l))), .agg (envD (Str.ofL l)), .c (.int .i64 0)]) h7 (ofG_eq ⟨l, rfl, h1, h2, rfl⟩ (by
    rintro v' ⟨l', h1, _, _, rfl⟩
    simp only [List.cons.injEq, PW.agg.injEq, and_true, true_and] at h1
    rw [env_inj h1])) rfl
/-! set, get, the first word -/
inductive RSet : List PW → PV → Prop where
  | mk (v : Str) : RSet [.agg [.nils, .nils, .nils], .c (.str sX), .c (.str v)] (.w (.agg (envD v)))
noncomputable def e13 : Nat × Ext := (13, .fn (ofG RSet) [])
theorem c13 : OkE Tryz.prog e13 := ext_frz Wk.any_ok Wk.types_ok Wk.fns_ok Wk.extsM_ok [] rfl (by kernel_rfl) _ 20 2000 fun ps pv h => by
  cases ofG_some h with
  | mk v => exact set_run v
theorem callR_set {X : T Ext} (h : (En X).ext.get 13 = some (.fn (ofG RSet) [])) (v : Str) (s : St) : CallR (En X) 13 [.agg [.nils, .nils, .nils], .c (.str sX), .c (.str v)] s (.w (.agg (cellsD (envD v)))) s :=
  callR_fn (ps := [.agg [.nils, .nils, .nils], .c (.str sX), .c (.str v)]) (pv := .w (.agg (envD v))) h (ofG_eq (.mk v) (by
    intro v' hv
    generalize hp : [PW.agg [.nils, .nils, .nils], PW.c (.str sX), PW.c (.str v)] = ps at hv
    cases hv with
    | mk v2 =>
      simp only [List.cons.injEq, PW.c.injEq, D.str.injEq, and_true, true_and] at hp
      rw [hp])) rfl
inductive RGet : List PW → PV → Prop where
  | mk (v : Str) : RGet [.agg (envD v), .c (.str sX)] (.tup [.c (.str v), .c (.bool true)])
noncomputable def e14 : Nat × Ext := (14, .fn (ofG RGet) [])
theorem c14 : OkE Tryz.prog e14 := ext_frz Wk.any_ok Wk.types_ok Wk.fns_ok Wk.extsM_ok [] rfl (by kernel_rfl) _ 20 2000 fun ps pv h => by
  cases ofG_some h with
  | mk v => exact get_run v
theorem callR_get {X : T Ext} (h : (En X).ext.get 14 = some (.fn (ofG RGet) [])) (v : Str) (s : St) : CallR (En X) 14 [.agg (cellsD (envD v)), .c (.str sX)] s (.tup [.c (.str v), .c (.bool true)]) s :=
  callR_fn (ps := [.agg (envD v), .c (.str sX)]) (pv := .tup [.c (.str v), .c (.bool true)]) h (ofG_eq (.mk v) (by
    intro v' hv
    generalize hp : [PW.agg (envD v), PW.c (.str sX)] = ps at hv
    cases hv with
    | mk v2 =>
      simp only [envD, List.cons.injEq, PW.agg.injEq, D.sl.injEq, D.str.injEq, and_true, true_and] at hp
      rw [hp])) rfl
inductive RFirst : List PW → PV → Prop where
  | mk : RFirst [.c (.str sW)] (.w (.agg wordD))
noncomputable def e6 : Nat × Ext := (6, .fn (ofG RFirst) Wk.gs)
theorem c6 : OkE Tryz.prog e6 := ext_frz Wk.any_ok Wk.types_ok Wk.fns_ok Wk.extsM_ok Wk.gs Wk.gs_ok (by kernel_rfl) _ 20 2000 fun ps pv h => by
  cases ofG_some h with
  | mk => exact first_run
theorem callR_first {X : T Ext} (h : (En X).ext.get 6 = some (.fn (ofG RFirst) Wk.gs)) (s : St) (hg : rowsAre s.h.get Wk.gs = true) : CallR (En X) 6 [.c (.str sW)] s (.w (.agg (cellsD wordD))) s :=
  callR_fn_g (ps := [.c (.str sW)]) (pv := .w (.agg wordD)) h hg (ofG_eq .mk (by intro v' hv; cases hv; rfl)) rfl
end Ws
