import Derived.Test.YtgpdamhijknegaaGreatDoorRlF
namespace Rl
open Go Go.Proofs Ev
set_option linter.unusedVariables false
set_option linter.unusedSimpArgs false
set_option maxRecDepth 100000
theorem st40 (X : T Ext) (s : St) (b o : Nat) (w : W) : store (En X) 40 s b o w = if w.cells.length = 2 then writeL s b o w.cells else none := store_of (tab40 X) tis40 s b o w
theorem st45 (X : T Ext) (s : St) (b o : Nat) (w : W) : store (En X) 45 s b o w = if w.cells.length = 6 then writeL s b o w.cells else none := store_of (tab45 X) tis45 s b o w
theorem ofL_nil : Str.ofL [] = ⟨0, 0⟩ := by kernel_rfl
/-- answers -/
def GoodA (x : List D) : Prop := ∃ n l, x = [.int .i64 n, .str (Str.ofL l)]
theorem goodA_plain {x : List D} (h : GoodA x) : x.all D.plain = true := by obtain ⟨l, r, rfl⟩ := h; rfl
theorem goodA_len {x : List D} (h : GoodA x) : (cellsD x).length = 2 := by obtain ⟨l, r, rfl⟩ := h; rfl
theorem ldA2 {x : List D} (h : GoodA x) : ldA 2 x 0 = some (.agg (cellsD x)) := by obtain ⟨l, r, rfl⟩ := h; rfl
theorem LRow.ldA2 {s : St} {b : Nat} {x : List D} (hx : GoodA x) (h : LRow s b (cellsD x)) : ldHA 2 s.h.get b 0 = some (.agg (cellsD x)) := by
  have := h.ldA; rwa [goodA_len hx] at this
def noA : List D := [.int .i64 127, .str (Str.ofL [])]
theorem noA_cells : cellsD noA = [.int .i64 127, .str ⟨0, 0⟩] := by
  show [C.int .i64 127, C.str (Str.ofL [])] = _
  rw [ofL_nil]
theorem noA_good : GoodA noA := ⟨127, [], rfl⟩
theorem bu40 (X : T Ext) (a : A) : rBuild (En X) a 40 [(0, .const (.int .i64 127))] = some (.w (.agg (cellsD noA))) := by
  rw [noA_cells]; kernel_rfl
def lookD (l : List (List D)) (n : Int) : List D := if n < 0 then noA else (l[n.toNat]?).getD noA
theorem lookD_good {l : List (List D)} (h : ∀ x ∈ l, GoodA x) (n : Int) : GoodA (lookD l n) := by
  unfold lookD
  split
  · exact noA_good
  · cases hh : l[n.toNat]? with
    | none => exact noA_good
    | some x => exact h x (List.mem_of_getElem? hh)
def RLook (ps : List PW) (v : PV) : Prop := ∃ d n, ps = [.c d, .c (.int .i64 n)] ∧ Good 2 GoodA d ∧ v = .w (.agg (lookD (els d) n))
theorem callR_look {E : Env} {f : Nat} {d : D} {n : Int} {s : St} (hx : E.ext.get f = some (.fn (ofG RLook) [])) (hd : Good 2 GoodA d) : CallR E f [.c d.toC, .c (.int .i64 n)] s (.w (.agg (cellsD (lookD (els d) n)))) s :=
  callR_fn (ps := [.c d, .c (.int .i64 n)]) (pv := .w (.agg (lookD (els d) n))) hx (ofG_eq ⟨d, n, rfl, hd, rfl⟩ (by rintro v' ⟨d', n', h1, _, rfl⟩; cases h1; rfl)) (by show (d.plain && (true && true)) = true; rw [isels_plain hd.el]; rfl)

theorem look4 (X : T Ext) (hX : (En X).ext.get 4 = none) (d : D) (n : Int) (s : St) (hd : Good 2 GoodA d) (K : V → St → Prop) (hK : ∀ s', K (.w (.agg (cellsD (lookD (els d) n)))) s') :
    goC (En X) 4 [.c d.toC, .c (.int .i64 n)] s K := by
  refine goC_body hX (kp4 X) (fn4 X) rfl (by kernel_rfl) ?_
  have hl : ∀ look, len (En X) 22 look d.toC = some (els d).length := fun look => len_els (us22 X) hd.el
  have hgo := lookD_good hd.all n
  obtain ⟨s1, w1, r1, n1, o1⟩ := row_written s [.int .i64 0, .str ⟨0, 0⟩] (cellsD (lookD (els d) n)) (goodA_len hgo)
  have hl1 := LRow.ldA2 hgo r1
  have hres : Tryz.f4.results.toList = [.cell 4 40] := rfl
  by_cases h0 : n < 0
  · have hlo : lookD (els d) n = noA := by unfold lookD; rw [if_pos h0]
    rw [hlo] at w1 hl1 hK
    simp only [go_seq, go_region, go_move, go_assign, go_len, go_binOp, go_block, go_scope, go_label, go_skip, go_exit, go_ret, go_ops_nil, go_load, go_fieldAddr, go_unOp, go_pick, go_indexAddr, go_slice, go_append, go_alloc, go_box, go_store, go_buildSlice, go_index, go_field, go_extract, go_build, go_nilCheck, go_lookup, go_mapUpdate, go_b, go_nil, goE_nil, goE_nm, goE_ex_c, goE_ret_c, goE_ex_b, goE_ret_b, go_guard, go_lookup, go_mapUpdate, go_cond, goB_tt, goB_ff, goG_tt, goG_ff, goO_some, goV_ok, goN_some, goV_okR, opnd_tmp, opnd_int, opnd_bool, opnd_nils, opnd_nilp, opnd_str, A.get_putP, A.get_baseP, L.get_consP, L.get_setP, L.get_nilP, tbit_eqP, kept_true, kept_false, A.keep_put, A.keep_base, A.flush_put, A.flush_base, putA_some, putA_none, argsA_cons, argsA_nil, toC_vc, toC_c, toW_vc, toW_w, toI_vc, toI_c, toB_vc, toB_c, toP_vc, toP_c, opC_tmp, opW_tmp, opI_tmp, opP_tmp, opC_int, opW_int, opI_int, opW_bool, opC_bool, opW_nils, opW_nilp, opC_nils, opW_str, rBin_eq, rUn_eq, rPick_eq, rLen_eq, rIndexAddr_eq, rFieldAddr_eq, rLoad_eq, aAppend_eq, aApp_eq, aStore_eq, retU_some, retCS_ok, retW_some, retC_some, b_lss, b_leq, b_gtr, b_geq, b_eql, b_neq, b_add, b_sub, b_mul, b_seql, b_sneq, u_not, goR_nm, goR_ret, resOf_nil, resOf_cons, resOne_tmp, tupOf_one, guardOk_eq, boolIs_t, boolIs_f, boolIs_t', boolIs_f', boolIs_skip, nBox_eq, rExtract_eq, resOne_cell, tupOf_two, cells_c, cells_agg, true_implies, false_implies, and_true, true_and, Bool.not_false, Bool.not_true, Bool.true_eq_false, Bool.false_eq_true, decide_eq_true_eq, decide_eq_false_iff_not, Bool.not_eq_true', Bool.not_eq_false', decide_true, decide_false, Nat.reduceShiftRight, Nat.reduceMod, Nat.reduceEqDiff, Nat.reduceAdd, ↓reduceIte, reduceCtorEq, List.getElem?_cons_zero, List.getElem?_cons_succ, hl, eq_true h0, al40, st40, bu40, goodA_len noA_good, w1, ldh40, hl1, hres]
    exact hK _
  by_cases h1 : Int.ofNat (els d).length ≤ n
  · have hlo : lookD (els d) n = noA := by
      unfold lookD
      rw [if_neg h0, List.getElem?_eq_none (by have : ((els d).length : Int) ≤ n := h1; omega)]
      rfl
    rw [hlo] at w1 hl1 hK
    simp only [go_seq, go_region, go_move, go_assign, go_len, go_binOp, go_block, go_scope, go_label, go_skip, go_exit, go_ret, go_ops_nil, go_load, go_fieldAddr, go_unOp, go_pick, go_indexAddr, go_slice, go_append, go_alloc, go_box, go_store, go_buildSlice, go_index, go_field, go_extract, go_build, go_nilCheck, go_lookup, go_mapUpdate, go_b, go_nil, goE_nil, goE_nm, goE_ex_c, goE_ret_c, goE_ex_b, goE_ret_b, go_guard, go_lookup, go_mapUpdate, go_cond, goB_tt, goB_ff, goG_tt, goG_ff, goO_some, goV_ok, goN_some, goV_okR, opnd_tmp, opnd_int, opnd_bool, opnd_nils, opnd_nilp, opnd_str, A.get_putP, A.get_baseP, L.get_consP, L.get_setP, L.get_nilP, tbit_eqP, kept_true, kept_false, A.keep_put, A.keep_base, A.flush_put, A.flush_base, putA_some, putA_none, argsA_cons, argsA_nil, toC_vc, toC_c, toW_vc, toW_w, toI_vc, toI_c, toB_vc, toB_c, toP_vc, toP_c, opC_tmp, opW_tmp, opI_tmp, opP_tmp, opC_int, opW_int, opI_int, opW_bool, opC_bool, opW_nils, opW_nilp, opC_nils, opW_str, rBin_eq, rUn_eq, rPick_eq, rLen_eq, rIndexAddr_eq, rFieldAddr_eq, rLoad_eq, aAppend_eq, aApp_eq, aStore_eq, retU_some, retCS_ok, retW_some, retC_some, b_lss, b_leq, b_gtr, b_geq, b_eql, b_neq, b_add, b_sub, b_mul, b_seql, b_sneq, u_not, goR_nm, goR_ret, resOf_nil, resOf_cons, resOne_tmp, tupOf_one, guardOk_eq, boolIs_t, boolIs_f, boolIs_t', boolIs_f', boolIs_skip, nBox_eq, rExtract_eq, resOne_cell, tupOf_two, cells_c, cells_agg, true_implies, false_implies, and_true, true_and, Bool.not_false, Bool.not_true, Bool.true_eq_false, Bool.false_eq_true, decide_eq_true_eq, decide_eq_false_iff_not, Bool.not_eq_true', Bool.not_eq_false', decide_true, decide_false, Nat.reduceShiftRight, Nat.reduceMod, Nat.reduceEqDiff, Nat.reduceAdd, ↓reduceIte, reduceCtorEq, List.getElem?_cons_zero, List.getElem?_cons_succ, hl, eq_false h0, eq_true h1, al40, st40, bu40, goodA_len noA_good, w1, ldh40, hl1, hres]
    exact hK _
  · obtain ⟨m, rfl⟩ : ∃ m : Nat, n = Int.ofNat m := ⟨n.toNat, by show n = ((n.toNat : Nat) : Int); omega⟩
    have hm : m < (els d).length := by
      have : ¬ (((els d).length : Nat) : Int) ≤ (m : Int) := h1
      omega
    have hx : (els d)[m]? = some (lookD (els d) (Int.ofNat m)) := by
      unfold lookD
      rw [if_neg h0]
      show _ = some (((els d)[m]?).getD noA)
      rw [List.getElem?_eq_getElem hm]; rfl
    have hix := index_els (us22 X) (sz40 X) hd.el hx
    simp only [go_seq, go_region, go_move, go_assign, go_len, go_binOp, go_block, go_scope, go_label, go_skip, go_exit, go_ret, go_ops_nil, go_load, go_fieldAddr, go_unOp, go_pick, go_indexAddr, go_slice, go_append, go_alloc, go_box, go_store, go_buildSlice, go_index, go_field, go_extract, go_build, go_nilCheck, go_lookup, go_mapUpdate, go_b, go_nil, goE_nil, goE_nm, goE_ex_c, goE_ret_c, goE_ex_b, goE_ret_b, go_guard, go_lookup, go_mapUpdate, go_cond, goB_tt, goB_ff, goG_tt, goG_ff, goO_some, goV_ok, goN_some, goV_okR, opnd_tmp, opnd_int, opnd_bool, opnd_nils, opnd_nilp, opnd_str, A.get_putP, A.get_baseP, L.get_consP, L.get_setP, L.get_nilP, tbit_eqP, kept_true, kept_false, A.keep_put, A.keep_base, A.flush_put, A.flush_base, putA_some, putA_none, argsA_cons, argsA_nil, toC_vc, toC_c, toW_vc, toW_w, toI_vc, toI_c, toB_vc, toB_c, toP_vc, toP_c, opC_tmp, opW_tmp, opI_tmp, opP_tmp, opC_int, opW_int, opI_int, opW_bool, opC_bool, opW_nils, opW_nilp, opC_nils, opW_str, rBin_eq, rUn_eq, rPick_eq, rLen_eq, rIndexAddr_eq, rFieldAddr_eq, rLoad_eq, aAppend_eq, aApp_eq, aStore_eq, retU_some, retCS_ok, retW_some, retC_some, b_lss, b_leq, b_gtr, b_geq, b_eql, b_neq, b_add, b_sub, b_mul, b_seql, b_sneq, u_not, goR_nm, goR_ret, resOf_nil, resOf_cons, resOne_tmp, tupOf_one, guardOk_eq, boolIs_t, boolIs_f, boolIs_t', boolIs_f', boolIs_skip, nBox_eq, rExtract_eq, resOne_cell, tupOf_two, cells_c, cells_agg, true_implies, false_implies, and_true, true_and, Bool.not_false, Bool.not_true, Bool.true_eq_false, Bool.false_eq_true, decide_eq_true_eq, decide_eq_false_iff_not, Bool.not_eq_true', Bool.not_eq_false', decide_true, decide_false, Nat.reduceShiftRight, Nat.reduceMod, Nat.reduceEqDiff, Nat.reduceAdd, ↓reduceIte, reduceCtorEq, List.getElem?_cons_zero, List.getElem?_cons_succ, hl, eq_false h0, eq_false h1, hix, al40, st40, ld40, ldA2 hgo, goodA_len hgo, w1, ldh40, hl1, hres]
    exact hK _

theorem look5 (X : T Ext) (hX : (En X).ext.get 5 = none) (d : D) (n : Int) (s : St) (hd : Good 2 GoodA d) (K : V → St → Prop) (hK : ∀ s', K (.w (.agg (cellsD (lookD (els d) n)))) s') :
    goC (En X) 5 [.c d.toC, .c (.int .i64 n)] s K := by
  refine goC_body hX (kp5 X) (fn5 X) rfl (by kernel_rfl) ?_
  have hl : ∀ look, len (En X) 22 look d.toC = some (els d).length := fun look => len_els (us22 X) hd.el
  have hgo := lookD_good hd.all n
  obtain ⟨s1, w1, r1, n1, o1⟩ := row_written s [.int .i64 0, .str ⟨0, 0⟩] (cellsD (lookD (els d) n)) (goodA_len hgo)
  have hl1 := LRow.ldA2 hgo r1
  have hres : Tryz.f5.results.toList = [.cell 4 40] := rfl
  by_cases h0 : n < 0
  · have hlo : lookD (els d) n = noA := by unfold lookD; rw [if_pos h0]
    rw [hlo] at w1 hl1 hK
    simp only [go_seq, go_region, go_move, go_assign, go_len, go_binOp, go_block, go_scope, go_label, go_skip, go_exit, go_ret, go_ops_nil, go_load, go_fieldAddr, go_unOp, go_pick, go_indexAddr, go_slice, go_append, go_alloc, go_box, go_store, go_buildSlice, go_index, go_field, go_extract, go_build, go_nilCheck, go_lookup, go_mapUpdate, go_b, go_nil, goE_nil, goE_nm, goE_ex_c, goE_ret_c, goE_ex_b, goE_ret_b, go_guard, go_lookup, go_mapUpdate, go_cond, goB_tt, goB_ff, goG_tt, goG_ff, goO_some, goV_ok, goN_some, goV_okR, opnd_tmp, opnd_int, opnd_bool, opnd_nils, opnd_nilp, opnd_str, A.get_putP, A.get_baseP, L.get_consP, L.get_setP, L.get_nilP, tbit_eqP, kept_true, kept_false, A.keep_put, A.keep_base, A.flush_put, A.flush_base, putA_some, putA_none, argsA_cons, argsA_nil, toC_vc, toC_c, toW_vc, toW_w, toI_vc, toI_c, toB_vc, toB_c, toP_vc, toP_c, opC_tmp, opW_tmp, opI_tmp, opP_tmp, opC_int, opW_int, opI_int, opW_bool, opC_bool, opW_nils, opW_nilp, opC_nils, opW_str, rBin_eq, rUn_eq, rPick_eq, rLen_eq, rIndexAddr_eq, rFieldAddr_eq, rLoad_eq, aAppend_eq, aApp_eq, aStore_eq, retU_some, retCS_ok, retW_some, retC_some, b_lss, b_leq, b_gtr, b_geq, b_eql, b_neq, b_add, b_sub, b_mul, b_seql, b_sneq, u_not, goR_nm, goR_ret, resOf_nil, resOf_cons, resOne_tmp, tupOf_one, guardOk_eq, boolIs_t, boolIs_f, boolIs_t', boolIs_f', boolIs_skip, nBox_eq, rExtract_eq, resOne_cell, tupOf_two, cells_c, cells_agg, true_implies, false_implies, and_true, true_and, Bool.not_false, Bool.not_true, Bool.true_eq_false, Bool.false_eq_true, decide_eq_true_eq, decide_eq_false_iff_not, Bool.not_eq_true', Bool.not_eq_false', decide_true, decide_false, Nat.reduceShiftRight, Nat.reduceMod, Nat.reduceEqDiff, Nat.reduceAdd, ↓reduceIte, reduceCtorEq, List.getElem?_cons_zero, List.getElem?_cons_succ, hl, eq_true h0, al40, st40, bu40, goodA_len noA_good, w1, ldh40, hl1, hres]
    exact hK _
  by_cases h1 : Int.ofNat (els d).length ≤ n
  · have hlo : lookD (els d) n = noA := by
      unfold lookD
      rw [if_neg h0, List.getElem?_eq_none (by have : ((els d).length : Int) ≤ n := h1; omega)]
      rfl
    rw [hlo] at w1 hl1 hK
    simp only [go_seq, go_region, go_move, go_assign, go_len, go_binOp, go_block, go_scope, go_label, go_skip, go_exit, go_ret, go_ops_nil, go_load, go_fieldAddr, go_unOp, go_pick, go_indexAddr, go_slice, go_append, go_alloc, go_box, go_store, go_buildSlice, go_index, go_field, go_extract, go_build, go_nilCheck, go_lookup, go_mapUpdate, go_b, go_nil, goE_nil, goE_nm, goE_ex_c, goE_ret_c, goE_ex_b, goE_ret_b, go_guard, go_lookup, go_mapUpdate, go_cond, goB_tt, goB_ff, goG_tt, goG_ff, goO_some, goV_ok, goN_some, goV_okR, opnd_tmp, opnd_int, opnd_bool, opnd_nils, opnd_nilp, opnd_str, A.get_putP, A.get_baseP, L.get_consP, L.get_setP, L.get_nilP, tbit_eqP, kept_true, kept_false, A.keep_put, A.keep_base, A.flush_put, A.flush_base, putA_some, putA_none, argsA_cons, argsA_nil, toC_vc, toC_c, toW_vc, toW_w, toI_vc, toI_c, toB_vc, toB_c, toP_vc, toP_c, opC_tmp, opW_tmp, opI_tmp, opP_tmp, opC_int, opW_int, opI_int, opW_bool, opC_bool, opW_nils, opW_nilp, opC_nils, opW_str, rBin_eq, rUn_eq, rPick_eq, rLen_eq, rIndexAddr_eq, rFieldAddr_eq, rLoad_eq, aAppend_eq, aApp_eq, aStore_eq, retU_some, retCS_ok, retW_some, retC_some, b_lss, b_leq, b_gtr, b_geq, b_eql, b_neq, b_add, b_sub, b_mul, b_seql, b_sneq, u_not, goR_nm, goR_ret, resOf_nil, resOf_cons, resOne_tmp, tupOf_one, guardOk_eq, boolIs_t, boolIs_f, boolIs_t', boolIs_f', boolIs_skip, nBox_eq, rExtract_eq, resOne_cell, tupOf_two, cells_c, cells_agg, true_implies, false_implies, and_true, true_and, Bool.not_false, Bool.not_true, Bool.true_eq_false, Bool.false_eq_true, decide_eq_true_eq, decide_eq_false_iff_not, Bool.not_eq_true', Bool.not_eq_false', decide_true, decide_false, Nat.reduceShiftRight, Nat.reduceMod, Nat.reduceEqDiff, Nat.reduceAdd, ↓reduceIte, reduceCtorEq, List.getElem?_cons_zero, List.getElem?_cons_succ, hl, eq_false h0, eq_true h1, al40, st40, bu40, goodA_len noA_good, w1, ldh40, hl1, hres]
    exact hK _
  · obtain ⟨m, rfl⟩ : ∃ m : Nat, n = Int.ofNat m := ⟨n.toNat, by show n = ((n.toNat : Nat) : Int); omega⟩
    have hm : m < (els d).length := by
      have : ¬ (((els d).length : Nat) : Int) ≤ (m : Int) := h1
      omega
    have hx : (els d)[m]? = some (lookD (els d) (Int.ofNat m)) := by
      unfold lookD
      rw [if_neg h0]
      show _ = some (((els d)[m]?).getD noA)
      rw [List.getElem?_eq_getElem hm]; rfl
    have hix := index_els (us22 X) (sz40 X) hd.el hx
    simp only [go_seq, go_region, go_move, go_assign, go_len, go_binOp, go_block, go_scope, go_label, go_skip, go_exit, go_ret, go_ops_nil, go_load, go_fieldAddr, go_unOp, go_pick, go_indexAddr, go_slice, go_append, go_alloc, go_box, go_store, go_buildSlice, go_index, go_field, go_extract, go_build, go_nilCheck, go_lookup, go_mapUpdate, go_b, go_nil, goE_nil, goE_nm, goE_ex_c, goE_ret_c, goE_ex_b, goE_ret_b, go_guard, go_lookup, go_mapUpdate, go_cond, goB_tt, goB_ff, goG_tt, goG_ff, goO_some, goV_ok, goN_some, goV_okR, opnd_tmp, opnd_int, opnd_bool, opnd_nils, opnd_nilp, opnd_str, A.get_putP, A.get_baseP, L.get_consP, L.get_setP, L.get_nilP, tbit_eqP, kept_true, kept_false, A.keep_put, A.keep_base, A.flush_put, A.flush_base, putA_some, putA_none, argsA_cons, argsA_nil, toC_vc, toC_c, toW_vc, toW_w, toI_vc, toI_c, toB_vc, toB_c, toP_vc, toP_c, opC_tmp, opW_tmp, opI_tmp, opP_tmp, opC_int, opW_int, opI_int, opW_bool, opC_bool, opW_nils, opW_nilp, opC_nils, opW_str, rBin_eq, rUn_eq, rPick_eq, rLen_eq, rIndexAddr_eq, rFieldAddr_eq, rLoad_eq, aAppend_eq, aApp_eq, aStore_eq, retU_some, retCS_ok, retW_some, retC_some, b_lss, b_leq, b_gtr, b_geq, b_eql, b_neq, b_add, b_sub, b_mul, b_seql, b_sneq, u_not, goR_nm, goR_ret, resOf_nil, resOf_cons, resOne_tmp, tupOf_one, guardOk_eq, boolIs_t, boolIs_f, boolIs_t', boolIs_f', boolIs_skip, nBox_eq, rExtract_eq, resOne_cell, tupOf_two, cells_c, cells_agg, true_implies, false_implies, and_true, true_and, Bool.not_false, Bool.not_true, Bool.true_eq_false, Bool.false_eq_true, decide_eq_true_eq, decide_eq_false_iff_not, Bool.not_eq_true', Bool.not_eq_false', decide_true, decide_false, Nat.reduceShiftRight, Nat.reduceMod, Nat.reduceEqDiff, Nat.reduceAdd, ↓reduceIte, reduceCtorEq, List.getElem?_cons_zero, List.getElem?_cons_succ, hl, eq_false h0, eq_false h1, hix, al40, st40, ld40, ldA2 hgo, goodA_len hgo, w1, ldh40, hl1, hres]
    exact hK _
end Rl
