import Derived.Test.YtbcpkhbojpglaaaGreatDoorSyE
namespace Sy
open Go Go.Proofs Ev
set_option linter.unusedVariables false
set_option linter.unusedSimpArgs false
set_option maxRecDepth 100000
/-! step.Run over the chain -/
def zsD : List C := [.nils, .nils, .nils, .nils, .int .i64 0, .str ⟨0, 0⟩, .str ⟨0, 0⟩, .int .i64 0, .int .i64 0, .str ⟨0, 0⟩, .int .i64 0, .str ⟨0, 0⟩, .nils, .int .i64 0, .int .i64 0, .bool false, .bool false, .int .i64 0, .nils, .nils, .str ⟨0, 0⟩]
theorem al40' (X : T Ext) (id : Nat) : nAlloc (En X) 40 id = some (vc (.ptr id 0), .row (mkRow zsD)) := al40 X id
theorem st40 (X : T Ext) (s : St) (b o : Nat) (w : W) : store (En X) 40 s b o w = if w.cells.length = 21 then writeL s b o w.cells else none := store_of (tab40 X) tis40 s b o w
theorem ldA21 {x : List D} (h : x.length = 21) {s : St} {b : Nat} (hr : LRow s b (cellsD x)) : ldHA 21 s.h.get b 0 = some (.agg (cellsD x)) := by
  have := hr.ldA
  rwa [show (cellsD x).length = 21 by show (x.map D.toC).length = 21; rw [List.length_map, h]] at this
theorem cells_len21 {x : List D} (h : x.length = 21) : (cellsD x).length = 21 := by show (x.map D.toC).length = 21; rw [List.length_map, h]
theorem cellsD_get {x : List D} {i : Nat} {d : D} (h : x[i]? = some d) : (cellsD x)[i]? = some d.toC := by
  show (x.map D.toC)[i]? = _
  rw [List.getElem?_map, h]; rfl
theorem run5 (X : T Ext) (hX : (En X).ext.get 5 = none) (h9 : (En X).ext.get 9 = some (.fn (ofG RStep) gs)) (s : St) (hg : rowsAre s.h.get gs = true) (hgn : ∀ p ∈ gs, p.1 < s.nx) (K : V → St → Prop) (hK : ∀ s', K (.tup [.agg (cellsD stEnd), .c (.int .i64 404)]) s') :
    goC (En X) 5 [.agg (cellsD progD), .agg (cellsD st0D), .c (.int .i64 2000)] s K := by
  refine goC_body hX (kp5 X) (fn5 X) rfl (by kernel_rfl) ?_
  have hres : Tryz.f5.results.toList = [.cell 6 40, .tmp 7] := rfl
  have q3 := LRow.new s (cellsD progD)
  have n0 : (s.new (.row (mkRow (cellsD progD)))).nx = s.nx + 1 := St.new_nx _ _
  have g0 : rowsAre (s.new (.row (mkRow (cellsD progD)))).h.get gs = true := rows_congr (fun p hp => new_old s _ (hgn p hp)) hg
  simp only [go_seq, go_region, go_move, go_assign, go_len, go_binOp, go_block, go_scope, go_label, go_skip, go_exit, go_ret, go_ops_nil, go_load, go_fieldAddr, go_unOp, go_pick, go_indexAddr, go_slice, go_append, go_alloc, go_box, go_store, go_buildSlice, go_index, go_field, go_extract, go_build, go_nilCheck, go_lookup, go_mapUpdate, go_b, go_nil, goE_nil, goE_nm, goE_ex_c, goE_ret_c, goE_ex_b, goE_ret_b, go_guard, go_lookup, go_mapUpdate, go_cond, goB_tt, goB_ff, goG_tt, goG_ff, goO_some, goV_ok, goN_some, goV_okR, opnd_tmp, opnd_int, opnd_bool, opnd_nils, opnd_nilp, opnd_str, A.get_putP, A.get_baseP, L.get_consP, L.get_setP, L.get_nilP, tbit_eqP, kept_true, kept_false, A.keep_put, A.keep_base, A.flush_put, A.flush_base, putA_some, putA_none, argsA_cons, argsA_nil, toC_vc, toC_c, toW_vc, toW_w, toI_vc, toI_c, toB_vc, toB_c, toP_vc, toP_c, opC_tmp, opW_tmp, opI_tmp, opP_tmp, opC_int, opW_int, opI_int, opW_bool, opC_bool, opW_nils, opW_nilp, opC_nils, opW_str, rBin_eq, rUn_eq, rPick_eq, rLen_eq, rIndexAddr_eq, rFieldAddr_eq, rLoad_eq, aAppend_eq, aApp_eq, aStore_eq, retU_some, retCS_ok, retW_some, retC_some, b_lss, b_leq, b_gtr, b_geq, b_eql, b_neq, b_add, b_sub, b_mul, b_seql, b_sneq, u_not, goR_nm, goR_ret, resOf_nil, resOf_cons, resOne_tmp, tupOf_one, guardOk_eq, boolIs_t, boolIs_f, boolIs_t', boolIs_f', boolIs_skip, nBox_eq, rExtract_eq, resOne_cell, tupOf_two, cells_c, cells_agg, true_implies, false_implies, and_true, true_and, Bool.not_false, Bool.not_true, Bool.true_eq_false, Bool.false_eq_true, decide_eq_true_eq, decide_eq_false_iff_not, Bool.not_eq_true', Bool.not_eq_false', decide_true, decide_false, Nat.reduceShiftRight, Nat.reduceMod, Nat.reduceEqDiff, Nat.reduceAdd, ↓reduceIte, reduceCtorEq, List.getElem?_cons_zero, List.getElem?_cons_succ, nBox_eq, al40']
  generalize s.new (.row (mkRow (cellsD progD))) = s1 at q3 n0 g0 ⊢
  have q3' := q3.keep (new_old s1 (.row (mkRow (cellsD st0D))) (by omega))
  have q4 := LRow.new s1 (cellsD st0D)
  have g1 : rowsAre (s1.new (.row (mkRow (cellsD st0D)))).h.get gs = true := rows_congr (fun p hp => new_old s1 _ (by have := hgn p hp; omega)) g0
  have n1 : (s1.new (.row (mkRow (cellsD st0D)))).nx = s1.nx + 1 := St.new_nx _ _
  generalize s1.new (.row (mkRow (cellsD st0D))) = s2 at q3' q4 n1 g1 ⊢
  have q3'' := q3'.keep (new_old s2 (.row (mkRow zsD)) (by omega))
  have q4' := q4.keep (new_old s2 (.row (mkRow zsD)) (by omega))
  have q6 := LRow.new s2 zsD
  have g2 : rowsAre (s2.new (.row (mkRow zsD))).h.get gs = true := rows_congr (fun p hp => new_old s2 _ (by have := hgn p hp; omega)) g1
  generalize s2.new (.row (mkRow zsD)) = s3 at q3'' q4' q6 g2 ⊢
  generalize hp3 : s.nx = p3 at *
  generalize hp4 : s1.nx = p4 at *
  generalize hp6 : s2.nx = p6 at *
  refine go_loop (goL_inv (fun n' a' s' => ∃ i, n' = 404 - i ∧ i ≤ 404 ∧ Has a' 2 (vc (.int .i64 2000)) ∧ Has a' 3 (vc (.ptr p3 0)) ∧ Has a' 4 (vc (.ptr p4 0)) ∧ Has a' 6 (vc (.ptr p6 0)) ∧ Has a' 8 (vc (.int .i64 (Int.ofNat i))) ∧ LRow s' p3 (cellsD progD) ∧ LRow s' p4 (cellsD (upTo i)) ∧ LRow s' p6 zsD ∧ rowsAre s'.h.get gs = true) (n := 404)
    ⟨0, rfl, Nat.zero_le _, ⟨rfl, rfl⟩, ⟨rfl, rfl⟩, ⟨rfl, rfl⟩, ⟨rfl, rfl⟩, ⟨rfl, rfl⟩, q3'', q4', q6, g2⟩ ?_)
  rintro n' a' s' ⟨i, rfl, hi, ⟨h2, k2⟩, ⟨h3, k3⟩, ⟨h4, k4⟩, ⟨h6, k6⟩, ⟨h8, k8⟩, r3, r4, r6, hgs⟩
  obtain ⟨f1, f2, f3, f4⟩ := up_form hi
  have c15 : ldHC s'.h.get p4 15 = some (.c (.bool (decide (i = 404)))) := r4.ldC (cellsD_get f3)
  have c16 : ldHC s'.h.get p4 16 = some (.c (.bool false)) := r4.ldC (cellsD_get f4)
  have hlt : (Int.ofNat i < 2000) = True := eq_true (by show ((i : Nat) : Int) < 2000; omega)
  have l4 := ldA21 f1 r4
  by_cases h404 : i = 404
  · have hd : decide (i = 404) = true := by simpa using h404
    rw [hd] at c15
    have hup : upTo i = stEnd := by unfold upTo; rw [if_pos h404]
    rw [hup] at l4
    obtain ⟨s6, w6, r6', n6, o6⟩ := r6.over (r := cellsD stEnd) rfl
    have l6 := ldA21 (x := stEnd) rfl r6'
    have h8' : Int.ofNat i = 404 := by rw [h404]; rfl
    rw [h8'] at h8 k8
    have hlt' : ((404 : Int) < 2000) = True := eq_true (by decide)
    simp only [go_seq, go_region, go_move, go_assign, go_len, go_binOp, go_block, go_scope, go_label, go_skip, go_exit, go_ret, go_ops_nil, go_load, go_fieldAddr, go_unOp, go_pick, go_indexAddr, go_slice, go_append, go_alloc, go_box, go_store, go_buildSlice, go_index, go_field, go_extract, go_build, go_nilCheck, go_lookup, go_mapUpdate, go_b, go_nil, goE_nil, goE_nm, goE_ex_c, goE_ret_c, goE_ex_b, goE_ret_b, go_guard, go_lookup, go_mapUpdate, go_cond, goB_tt, goB_ff, goG_tt, goG_ff, goO_some, goV_ok, goN_some, goV_okR, opnd_tmp, opnd_int, opnd_bool, opnd_nils, opnd_nilp, opnd_str, A.get_putP, A.get_baseP, L.get_consP, L.get_setP, L.get_nilP, tbit_eqP, kept_true, kept_false, A.keep_put, A.keep_base, A.flush_put, A.flush_base, putA_some, putA_none, argsA_cons, argsA_nil, toC_vc, toC_c, toW_vc, toW_w, toI_vc, toI_c, toB_vc, toB_c, toP_vc, toP_c, opC_tmp, opW_tmp, opI_tmp, opP_tmp, opC_int, opW_int, opI_int, opW_bool, opC_bool, opW_nils, opW_nilp, opC_nils, opW_str, rBin_eq, rUn_eq, rPick_eq, rLen_eq, rIndexAddr_eq, rFieldAddr_eq, rLoad_eq, aAppend_eq, aApp_eq, aStore_eq, retU_some, retCS_ok, retW_some, retC_some, b_lss, b_leq, b_gtr, b_geq, b_eql, b_neq, b_add, b_sub, b_mul, b_seql, b_sneq, u_not, goR_nm, goR_ret, resOf_nil, resOf_cons, resOne_tmp, tupOf_one, guardOk_eq, boolIs_t, boolIs_f, boolIs_t', boolIs_f', boolIs_skip, nBox_eq, rExtract_eq, resOne_cell, tupOf_two, cells_c, cells_agg, true_implies, false_implies, and_true, true_and, Bool.not_false, Bool.not_true, Bool.true_eq_false, Bool.false_eq_true, decide_eq_true_eq, decide_eq_false_iff_not, Bool.not_eq_true', Bool.not_eq_false', decide_true, decide_false, Nat.reduceShiftRight, Nat.reduceMod, Nat.reduceEqDiff, Nat.reduceAdd, ↓reduceIte, reduceCtorEq, List.getElem?_cons_zero, List.getElem?_cons_succ, h2, k2, h3, k3, h4, k4, h6, k6, h8, k8, hlt', fA_40_10, fA_40_11, ldh4, c15, c16, u_not, ldh40, l4, st40, show (cellsD stEnd).length = 21 from rfl, w6, l6, hres]
    exact hK _
  · have hd : decide (i = 404) = false := by simpa using h404
    rw [hd] at c15
    have hsu := nat_succ (show i < 9223372036854775807 by omega)
    have hik : i < 404 := by omega
    have l3 : ldHA 2 s'.h.get p3 0 = some (.agg (cellsD progD)) := r3.ldA
    have hup := up_at hik
    have hc9 : CallR (En X) 9 [.agg (cellsD progD), .agg (cellsD (upTo i))] s' (.w (.agg (cellsD (upTo (i + 1))))) s' := by
      rw [hup, ← up_next hik]
      exact callR_fn_g (ps := [.agg progD, .agg (stAt i)]) (pv := .w (.agg (nextD i))) h9 hgs (ofG_step hik) (by rw [hup] at f2; simp only [List.all_cons, List.all_nil, PW.plain, f2]; rfl)
    obtain ⟨e1, e2, e3, e4⟩ := up_form (i := i + 1) hik
    have hcl := cells_len21 e1
    obtain ⟨s5, w5, r5, n5, o5⟩ := r4.over (r := cellsD (upTo (i + 1))) (by rw [hcl, cells_len21 f1])
    have hfin : LRow s5 p3 (cellsD progD) ∧ LRow s5 p4 (cellsD (upTo (i + 1))) ∧ LRow s5 p6 zsD ∧ rowsAre s5.h.get gs = true :=
      ⟨r3.keep (o5 _ (by omega)), r5, r6.keep (o5 _ (by omega)), rows_congr (fun p hp => by have := hgn p hp; exact o5 _ (by omega)) hgs⟩
    simp only [go_seq, go_region, go_move, go_assign, go_len, go_binOp, go_block, go_scope, go_label, go_skip, go_exit, go_ret, go_ops_nil, go_load, go_fieldAddr, go_unOp, go_pick, go_indexAddr, go_slice, go_append, go_alloc, go_box, go_store, go_buildSlice, go_index, go_field, go_extract, go_build, go_nilCheck, go_lookup, go_mapUpdate, go_b, go_nil, goE_nil, goE_nm, goE_ex_c, goE_ret_c, goE_ex_b, goE_ret_b, go_guard, go_lookup, go_mapUpdate, go_cond, goB_tt, goB_ff, goG_tt, goG_ff, goO_some, goV_ok, goN_some, goV_okR, opnd_tmp, opnd_int, opnd_bool, opnd_nils, opnd_nilp, opnd_str, A.get_putP, A.get_baseP, L.get_consP, L.get_setP, L.get_nilP, tbit_eqP, kept_true, kept_false, A.keep_put, A.keep_base, A.flush_put, A.flush_base, putA_some, putA_none, argsA_cons, argsA_nil, toC_vc, toC_c, toW_vc, toW_w, toI_vc, toI_c, toB_vc, toB_c, toP_vc, toP_c, opC_tmp, opW_tmp, opI_tmp, opP_tmp, opC_int, opW_int, opI_int, opW_bool, opC_bool, opW_nils, opW_nilp, opC_nils, opW_str, rBin_eq, rUn_eq, rPick_eq, rLen_eq, rIndexAddr_eq, rFieldAddr_eq, rLoad_eq, aAppend_eq, aApp_eq, aStore_eq, retU_some, retCS_ok, retW_some, retC_some, b_lss, b_leq, b_gtr, b_geq, b_eql, b_neq, b_add, b_sub, b_mul, b_seql, b_sneq, u_not, goR_nm, goR_ret, resOf_nil, resOf_cons, resOne_tmp, tupOf_one, guardOk_eq, boolIs_t, boolIs_f, boolIs_t', boolIs_f', boolIs_skip, nBox_eq, rExtract_eq, resOne_cell, tupOf_two, cells_c, cells_agg, true_implies, false_implies, and_true, true_and, Bool.not_false, Bool.not_true, Bool.true_eq_false, Bool.false_eq_true, decide_eq_true_eq, decide_eq_false_iff_not, Bool.not_eq_true', Bool.not_eq_false', decide_true, decide_false, Nat.reduceShiftRight, Nat.reduceMod, Nat.reduceEqDiff, Nat.reduceAdd, ↓reduceIte, reduceCtorEq, List.getElem?_cons_zero, List.getElem?_cons_succ, h2, k2, h3, k3, h4, k4, h6, k6, h8, k8, hlt, fA_40_10, fA_40_11, ldh4, c15, c16, u_not, ldh26, l3, ldh40, l4]
    refine go_call _ _ _ _ _ _ (ws := [.agg (cellsD progD), .agg (cellsD (upTo i))]) rfl (by simp only [opnd_tmp, opnd_int, opnd_bool, opnd_nils, opnd_nilp, opnd_str, A.get_putP, A.get_baseP, L.get_consP, L.get_setP, L.get_nilP, tbit_eqP, kept_true, kept_false, A.keep_put, A.keep_base, A.flush_put, A.flush_base, putA_some, putA_none, argsA_cons, argsA_nil, toC_vc, toC_c, toW_vc, toW_w, toI_vc, toI_c, toB_vc, toB_c, toP_vc, toP_c, opC_tmp, opW_tmp, opI_tmp, opP_tmp, opC_int, opW_int, opI_int, opW_bool, opC_bool, opW_nils, opW_nilp, opC_nils, opW_str, cells_c, cells_agg, Bool.not_false, Bool.not_true, Bool.true_eq_false, Bool.false_eq_true, decide_eq_true_eq, decide_eq_false_iff_not, Bool.not_eq_true', Bool.not_eq_false', decide_true, decide_false, Nat.reduceShiftRight, Nat.reduceMod, Nat.reduceEqDiff, Nat.reduceAdd, ↓reduceIte, reduceCtorEq, List.getElem?_cons_zero, List.getElem?_cons_succ, argsOf_cons, argsOf_nil]) ?_
    refine goC_of hc9 ?_
    simp only [go_seq, go_region, go_move, go_assign, go_len, go_binOp, go_block, go_scope, go_label, go_skip, go_exit, go_ret, go_ops_nil, go_load, go_fieldAddr, go_unOp, go_pick, go_indexAddr, go_slice, go_append, go_alloc, go_box, go_store, go_buildSlice, go_index, go_field, go_extract, go_build, go_nilCheck, go_lookup, go_mapUpdate, go_b, go_nil, goE_nil, goE_nm, goE_ex_c, goE_ret_c, goE_ex_b, goE_ret_b, go_guard, go_lookup, go_mapUpdate, go_cond, goB_tt, goB_ff, goG_tt, goG_ff, goO_some, goV_ok, goN_some, goV_okR, opnd_tmp, opnd_int, opnd_bool, opnd_nils, opnd_nilp, opnd_str, A.get_putP, A.get_baseP, L.get_consP, L.get_setP, L.get_nilP, tbit_eqP, kept_true, kept_false, A.keep_put, A.keep_base, A.flush_put, A.flush_base, putA_some, putA_none, argsA_cons, argsA_nil, toC_vc, toC_c, toW_vc, toW_w, toI_vc, toI_c, toB_vc, toB_c, toP_vc, toP_c, opC_tmp, opW_tmp, opI_tmp, opP_tmp, opC_int, opW_int, opI_int, opW_bool, opC_bool, opW_nils, opW_nilp, opC_nils, opW_str, rBin_eq, rUn_eq, rPick_eq, rLen_eq, rIndexAddr_eq, rFieldAddr_eq, rLoad_eq, aAppend_eq, aApp_eq, aStore_eq, retU_some, retCS_ok, retW_some, retC_some, b_lss, b_leq, b_gtr, b_geq, b_eql, b_neq, b_add, b_sub, b_mul, b_seql, b_sneq, u_not, goR_nm, goR_ret, resOf_nil, resOf_cons, resOne_tmp, tupOf_one, guardOk_eq, boolIs_t, boolIs_f, boolIs_t', boolIs_f', boolIs_skip, nBox_eq, rExtract_eq, resOne_cell, tupOf_two, cells_c, cells_agg, true_implies, false_implies, and_true, true_and, Bool.not_false, Bool.not_true, Bool.true_eq_false, Bool.false_eq_true, decide_eq_true_eq, decide_eq_false_iff_not, Bool.not_eq_true', Bool.not_eq_false', decide_true, decide_false, Nat.reduceShiftRight, Nat.reduceMod, Nat.reduceEqDiff, Nat.reduceAdd, ↓reduceIte, reduceCtorEq, List.getElem?_cons_zero, List.getElem?_cons_succ, h2, k2, h3, k3, h4, k4, h6, k6, h8, k8, st40, hcl, w5, hsu]
    refine ⟨_, ?_, i + 1, rfl, hik, ⟨?_, ?_⟩, ⟨?_, ?_⟩, ⟨?_, ?_⟩, ⟨?_, ?_⟩, ⟨?_, ?_⟩, hfin⟩
    all_goals first | (simp only [go_seq, go_region, go_move, go_assign, go_len, go_binOp, go_block, go_scope, go_label, go_skip, go_exit, go_ret, go_ops_nil, go_load, go_fieldAddr, go_unOp, go_pick, go_indexAddr, go_slice, go_append, go_alloc, go_box, go_store, go_buildSlice, go_index, go_field, go_extract, go_build, go_nilCheck, go_lookup, go_mapUpdate, go_b, go_nil, goE_nil, goE_nm, goE_ex_c, goE_ret_c, goE_ex_b, goE_ret_b, go_guard, go_lookup, go_mapUpdate, go_cond, goB_tt, goB_ff, goG_tt, goG_ff, goO_some, goV_ok, goN_some, goV_okR, opnd_tmp, opnd_int, opnd_bool, opnd_nils, opnd_nilp, opnd_str, A.get_putP, A.get_baseP, L.get_consP, L.get_setP, L.get_nilP, tbit_eqP, kept_true, kept_false, A.keep_put, A.keep_base, A.flush_put, A.flush_base, putA_some, putA_none, argsA_cons, argsA_nil, toC_vc, toC_c, toW_vc, toW_w, toI_vc, toI_c, toB_vc, toB_c, toP_vc, toP_c, opC_tmp, opW_tmp, opI_tmp, opP_tmp, opC_int, opW_int, opI_int, opW_bool, opC_bool, opW_nils, opW_nilp, opC_nils, opW_str, rBin_eq, rUn_eq, rPick_eq, rLen_eq, rIndexAddr_eq, rFieldAddr_eq, rLoad_eq, aAppend_eq, aApp_eq, aStore_eq, retU_some, retCS_ok, retW_some, retC_some, b_lss, b_leq, b_gtr, b_geq, b_eql, b_neq, b_add, b_sub, b_mul, b_seql, b_sneq, u_not, goR_nm, goR_ret, resOf_nil, resOf_cons, resOne_tmp, tupOf_one, guardOk_eq, boolIs_t, boolIs_f, boolIs_t', boolIs_f', boolIs_skip, nBox_eq, rExtract_eq, resOne_cell, tupOf_two, cells_c, cells_agg, true_implies, false_implies, and_true, true_and, Bool.not_false, Bool.not_true, Bool.true_eq_false, Bool.false_eq_true, decide_eq_true_eq, decide_eq_false_iff_not, Bool.not_eq_true', Bool.not_eq_false', decide_true, decide_false, Nat.reduceShiftRight, Nat.reduceMod, Nat.reduceEqDiff, Nat.reduceAdd, ↓reduceIte, reduceCtorEq, List.getElem?_cons_zero, List.getElem?_cons_succ, h2, k2, h3, k3, h4, k4, h6, k6, h8, k8]; done) | omega
/-- what is kept of it -/
def runL : List (List PW × PV) := [([.agg progD, .agg st0D, .c (.int .i64 2000)], .tup [.agg stEnd, .c (.int .i64 404)])]
noncomputable def e5 : Nat × Ext := (5, .fn (memoF runL) gs)
theorem c5 : OkE Tryz.prog e5 := by
  refine ext_fn gs_ok (pure_of_run (exts := [e9]) any_ok types_ok fns_ok (oks1 c9 oks0) (f := 5) rfl gs _ fun ps pv hp => ?_)
  obtain ⟨m, hm, rfl, rfl⟩ := memoF_some hp
  obtain rfl : m = _ := List.mem_singleton.1 hm
  obtain ⟨v, s', ⟨N, hN⟩, bs, hz⟩ := run5 (pairT [e9] .nil) rfl rfl (st0 gs Tryz.prog.globals.size) (by kernel_rfl) (rows_below gs_ok) (fun v s' => ∃ bs, frzV s'.h.get v = some (PV.tup [.agg stEnd, .c (.int .i64 404)], bs)) fun s' => ⟨[], frzV_tup (l := [.agg stEnd, .c (.int .i64 404)]) _ rfl⟩
  exact ⟨N, N, v, s', bs, hN N (N + 1) (Nat.le_refl _) (Nat.le_succ _), hz⟩
noncomputable abbrev extsL : List (Nat × Ext) := e5 :: extsK
theorem extsL_ok : ∀ p ∈ extsL, ExtOne Tryz.prog Tryz.prog.globals.size p.1 p.2 := oks1 c5 extsK_ok
noncomputable abbrev runC (a : Int) : Bool := isTrue (runF (envOf Tryz.prog extsL kps) 20 (2000 + 1) 3 [.c (.int .i64 a)] (st0 gs Tryz.prog.globals.size))
end Sy
