import Derived.Test.YtofngijkhghnmaaAuE
namespace Au
open Go Go.Proofs Ev
set_option linter.unusedVariables false
set_option linter.unusedSimpArgs false
set_option maxRecDepth 100000
theorem st27 (X : T Ext) (s : St) (b o : Nat) (w : W) : store (En X) 27 s b o w = if w.cells.length = 6 then writeL s b o w.cells else none := store_of (tab27 X) tis27 s b o w
theorem st35 (X : T Ext) (s : St) (b o : Nat) (w : W) : store (En X) 35 s b o w = if w.cells.length = 4 then writeL s b o w.cells else none := store_of (tab35 X) tis35 s b o w
theorem putL_all {l r : List C} (h : r.length = l.length) : putL l 0 r = r := by unfold putL; simp [h]
theorem SlAt.new {s : St} {c : C} {z : Nat} {ls : List (List D)} (h : SlAt s c z ls) (b : Blk) : SlAt (s.new b) c z ls := by
  refine ⟨h.1, h.2.imp id ?_⟩
  rintro ⟨b', sh, anc, h1, h2, h3, h4⟩
  exact ⟨b', sh, anc, h1, by rw [new_old s b h4]; exact h2, h3, by rw [St.new_nx]; omega⟩
theorem SlAt.other {s s' : St} {c : C} {z : Nat} {ls : List (List D)} (h : SlAt s c z ls) (hn : s.nx ≤ s'.nx) (hk : ∀ b, b < s.nx → (∀ o n cap z', c = .sl b o n cap z' → s'.h.get b = s.h.get b)) : SlAt s' c z ls := by
  refine ⟨h.1, h.2.imp id ?_⟩
  rintro ⟨b', sh, anc, h1, h2, h3, h4⟩
  exact ⟨b', sh, anc, h1, by rw [hk b' h4 _ _ _ _ h1]; exact h2, h3, by omega⟩
/-- a struct's new row, that is written at once -/
theorem row_written (s : St) (zs r : List C) (h : r.length = zs.length) : ∃ s', writeL (s.new (.row (mkRow zs))) s.nx 0 r = some s' ∧ LRow s' s.nx r ∧ s'.nx = s.nx + 1 ∧ ∀ x, x < s.nx → s'.h.get x = s.h.get x := by
  obtain ⟨s', h1, h2, h3, h4⟩ := (LRow.new s zs).write (o := 0) (r := r) (by omega)
  rw [putL_all h] at h2
  exact ⟨s', h1, h2, by rw [h3, St.new_nx], fun x hx => by rw [h4 x (by omega), new_old s _ hx]⟩
theorem all20 (X : T Ext) (hX : (En X).ext.get 20 = none) (d : D) (s : St) (hd : Good 6 GoodO d) (hn : (allD (els d)).length ≤ 1000) (K : V → St → Prop)
    (hK : ∀ c s', SlAt s' c 4 (allD (els d)) → K (vc c) s') : goC (En X) 20 [.c d.toC] s K := by
  refine goC_body hX (kp20 X) (fn20 X) rfl (by kernel_rfl) ?_
  have hl : ∀ look, len (En X) 28 look d.toC = some (els d).length := fun look => len_els (us28 X) hd.el
  simp only [go_seq, go_region, go_move, go_assign, go_len, go_binOp, go_block, go_scope, go_label, go_skip, go_exit, go_ret, go_ops_nil, go_load, go_fieldAddr, go_unOp, go_pick, go_indexAddr, go_slice, go_append, go_alloc, go_box, go_store, go_buildSlice, go_index, go_field, go_extract, go_build, go_nilCheck, go_lookup, go_mapUpdate, go_b, go_nil, goE_nil, goE_nm, goE_ex_c, goE_ret_c, goE_ex_b, goE_ret_b, go_guard, go_lookup, go_mapUpdate, go_cond, goB_tt, goB_ff, goG_tt, goG_ff, goO_some, goV_ok, goN_some, goV_okR, opnd_tmp, opnd_int, opnd_bool, opnd_nils, opnd_nilp, opnd_str, A.get_putP, A.get_baseP, L.get_consP, L.get_setP, L.get_nilP, tbit_eqP, kept_true, kept_false, A.keep_put, A.keep_base, A.flush_put, A.flush_base, putA_some, putA_none, argsA_cons, argsA_nil, toC_vc, toC_c, toW_vc, toW_w, toI_vc, toI_c, toB_vc, toB_c, toP_vc, toP_c, opC_tmp, opW_tmp, opI_tmp, opP_tmp, opC_int, opW_int, opI_int, opW_bool, opC_bool, opW_nils, opW_nilp, opC_nils, opW_str, rBin_eq, rUn_eq, rPick_eq, rLen_eq, rIndexAddr_eq, rFieldAddr_eq, rLoad_eq, aAppend_eq, aApp_eq, aStore_eq, retU_some, retCS_ok, retW_some, retC_some, b_lss, b_leq, b_gtr, b_geq, b_eql, b_neq, b_add, b_sub, b_mul, b_seql, b_sneq, u_not, goR_nm, goR_ret, resOf_nil, resOf_cons, resOne_tmp, tupOf_one, guardOk_eq, boolIs_t, boolIs_f, boolIs_t', boolIs_f', boolIs_skip, nBox_eq, rExtract_eq, resOne_cell, tupOf_two, cells_c, cells_agg, true_implies, false_implies, and_true, true_and, Bool.not_false, Bool.not_true, Bool.true_eq_false, Bool.false_eq_true, decide_eq_true_eq, decide_eq_false_iff_not, Bool.not_eq_true', Bool.not_eq_false', decide_true, decide_false, Nat.reduceShiftRight, Nat.reduceMod, Nat.reduceEqDiff, Nat.reduceAdd, ↓reduceIte, reduceCtorEq, List.getElem?_cons_zero, List.getElem?_cons_succ, hl]
  refine go_loop (goL_inv (fun n a s' => ∃ i c, n = (els d).length - i ∧ i ≤ (els d).length ∧ Has a 6 (vc d.toC) ∧ Has a 3 (vc c) ∧ Has a 7 (vc (.int .i64 (Int.ofNat (els d).length))) ∧ Has a 8 (vc (.int .i64 (Int.ofNat i))) ∧ SlAt s' c 4 (allD ((els d).take i))) (n := (els d).length)
    ⟨0, .nils, rfl, Nat.zero_le _, ⟨rfl, rfl⟩, ⟨rfl, rfl⟩, ⟨rfl, rfl⟩, ⟨rfl, rfl⟩, SlAt.nil s 4⟩ ?_)
  rintro n a s' ⟨i, c, rfl, hi, ⟨g0, k0⟩, ⟨g3, k3⟩, ⟨g7, k7⟩, ⟨g8, k8⟩, hsl⟩
  by_cases hlt : i < (els d).length
  · obtain ⟨o, hoi⟩ : ∃ o, (els d)[i]? = some o := ⟨_, List.getElem?_eq_getElem hlt⟩
    have hix := index_els (us28 X) (sz27 X) hd.el hoi
    obtain ⟨e, st, ot, fl, vr, ca, rfl, _, _, hca⟩ := hd.all o (List.mem_of_getElem? hoi)
    have hle := allD_le (els d) (i + 1)
    rw [allD_take (els d) hoi] at hle
    obtain ⟨s1, w1, r1, n1, o1⟩ := row_written s' [.int .i64 0, .int .i64 0, .str ⟨0, 0⟩, .nils, .nils, .nils] [.int .i64 e, .int .i64 st, .str (Str.ofL ot), fl.toC, vr.toC, ca.toC] rfl
    have l1 := r1.ldC (o := 5) rfl
    have hsl1 : SlAt s1 c 4 (allD ((els d).take i)) := SlAt.other hsl (by omega) (fun b hb _ _ _ _ _ => o1 b hb)
    obtain ⟨c', s2, happ, hsl2, _⟩ := app_els (el25 X) ti35.1 hsl1 hca.el (by decide) (by
      rw [ti35.2]
      have : (els ca).length = (callsO [.int .i64 e, .int .i64 st, .str (Str.ofL ot), fl, vr, ca]).length := rfl
      rw [List.length_append, ← this] at hle
      have : maxBytes = 140737488355328 := rfl
      omega)
    simp only [go_seq, go_region, go_move, go_assign, go_len, go_binOp, go_block, go_scope, go_label, go_skip, go_exit, go_ret, go_ops_nil, go_load, go_fieldAddr, go_unOp, go_pick, go_indexAddr, go_slice, go_append, go_alloc, go_box, go_store, go_buildSlice, go_index, go_field, go_extract, go_build, go_nilCheck, go_lookup, go_mapUpdate, go_b, go_nil, goE_nil, goE_nm, goE_ex_c, goE_ret_c, goE_ex_b, goE_ret_b, go_guard, go_lookup, go_mapUpdate, go_cond, goB_tt, goB_ff, goG_tt, goG_ff, goO_some, goV_ok, goN_some, goV_okR, opnd_tmp, opnd_int, opnd_bool, opnd_nils, opnd_nilp, opnd_str, A.get_putP, A.get_baseP, L.get_consP, L.get_setP, L.get_nilP, tbit_eqP, kept_true, kept_false, A.keep_put, A.keep_base, A.flush_put, A.flush_base, putA_some, putA_none, argsA_cons, argsA_nil, toC_vc, toC_c, toW_vc, toW_w, toI_vc, toI_c, toB_vc, toB_c, toP_vc, toP_c, opC_tmp, opW_tmp, opI_tmp, opP_tmp, opC_int, opW_int, opI_int, opW_bool, opC_bool, opW_nils, opW_nilp, opC_nils, opW_str, rBin_eq, rUn_eq, rPick_eq, rLen_eq, rIndexAddr_eq, rFieldAddr_eq, rLoad_eq, aAppend_eq, aApp_eq, aStore_eq, retU_some, retCS_ok, retW_some, retC_some, b_lss, b_leq, b_gtr, b_geq, b_eql, b_neq, b_add, b_sub, b_mul, b_seql, b_sneq, u_not, goR_nm, goR_ret, resOf_nil, resOf_cons, resOne_tmp, tupOf_one, guardOk_eq, boolIs_t, boolIs_f, boolIs_t', boolIs_f', boolIs_skip, nBox_eq, rExtract_eq, resOne_cell, tupOf_two, cells_c, cells_agg, true_implies, false_implies, and_true, true_and, Bool.not_false, Bool.not_true, Bool.true_eq_false, Bool.false_eq_true, decide_eq_true_eq, decide_eq_false_iff_not, Bool.not_eq_true', Bool.not_eq_false', decide_true, decide_false, Nat.reduceShiftRight, Nat.reduceMod, Nat.reduceEqDiff, Nat.reduceAdd, ↓reduceIte, reduceCtorEq, List.getElem?_cons_zero, List.getElem?_cons_succ, g0, k0, g3, k3, g7, k7, g8, k8, lt_true hlt, hix, ld27, ldA, cellsD_cons, cellsD_nil, toC_int, toC_strD, List.drop_zero, List.take_succ_cons, List.take_zero, List.length_cons, List.length_nil, Nat.zero_add, Nat.le_refl, al27, st27, w1, fA_27_5, ldh25, l1, us25, happ, i64_small hlt hd.len]
    refine ⟨_, ?_, i + 1, c', rfl, hlt, ⟨?_, ?_⟩, ⟨?_, ?_⟩, ⟨?_, ?_⟩, ⟨?_, ?_⟩, ?_⟩
    all_goals first | (simp only [opnd_tmp, opnd_int, opnd_bool, opnd_nils, opnd_nilp, opnd_str, A.get_putP, A.get_baseP, L.get_consP, L.get_setP, L.get_nilP, tbit_eqP, kept_true, kept_false, A.keep_put, A.keep_base, A.flush_put, A.flush_base, putA_some, putA_none, argsA_cons, argsA_nil, toC_vc, toC_c, toW_vc, toW_w, toI_vc, toI_c, toB_vc, toB_c, toP_vc, toP_c, opC_tmp, opW_tmp, opI_tmp, opP_tmp, opC_int, opW_int, opI_int, opW_bool, opC_bool, opW_nils, opW_nilp, opC_nils, opW_str, cells_c, cells_agg, Bool.not_false, Bool.not_true, Bool.true_eq_false, Bool.false_eq_true, decide_eq_true_eq, decide_eq_false_iff_not, Bool.not_eq_true', Bool.not_eq_false', decide_true, decide_false, Nat.reduceShiftRight, Nat.reduceMod, Nat.reduceEqDiff, Nat.reduceAdd, ↓reduceIte, reduceCtorEq, List.getElem?_cons_zero, List.getElem?_cons_succ, g0, k0, g7, k7]; done) | skip
    · omega
    · rw [allD_take (els d) hoi]; exact hsl2
  · simp only [go_seq, go_region, go_move, go_assign, go_len, go_binOp, go_block, go_scope, go_label, go_skip, go_exit, go_ret, go_ops_nil, go_load, go_fieldAddr, go_unOp, go_pick, go_indexAddr, go_slice, go_append, go_alloc, go_box, go_store, go_buildSlice, go_index, go_field, go_extract, go_build, go_nilCheck, go_lookup, go_mapUpdate, go_b, go_nil, goE_nil, goE_nm, goE_ex_c, goE_ret_c, goE_ex_b, goE_ret_b, go_guard, go_lookup, go_mapUpdate, go_cond, goB_tt, goB_ff, goG_tt, goG_ff, goO_some, goV_ok, goN_some, goV_okR, opnd_tmp, opnd_int, opnd_bool, opnd_nils, opnd_nilp, opnd_str, A.get_putP, A.get_baseP, L.get_consP, L.get_setP, L.get_nilP, tbit_eqP, kept_true, kept_false, A.keep_put, A.keep_base, A.flush_put, A.flush_base, putA_some, putA_none, argsA_cons, argsA_nil, toC_vc, toC_c, toW_vc, toW_w, toI_vc, toI_c, toB_vc, toB_c, toP_vc, toP_c, opC_tmp, opW_tmp, opI_tmp, opP_tmp, opC_int, opW_int, opI_int, opW_bool, opC_bool, opW_nils, opW_nilp, opC_nils, opW_str, rBin_eq, rUn_eq, rPick_eq, rLen_eq, rIndexAddr_eq, rFieldAddr_eq, rLoad_eq, aAppend_eq, aApp_eq, aStore_eq, retU_some, retCS_ok, retW_some, retC_some, b_lss, b_leq, b_gtr, b_geq, b_eql, b_neq, b_add, b_sub, b_mul, b_seql, b_sneq, u_not, goR_nm, goR_ret, resOf_nil, resOf_cons, resOne_tmp, tupOf_one, guardOk_eq, boolIs_t, boolIs_f, boolIs_t', boolIs_f', boolIs_skip, nBox_eq, rExtract_eq, resOne_cell, tupOf_two, cells_c, cells_agg, true_implies, false_implies, and_true, true_and, Bool.not_false, Bool.not_true, Bool.true_eq_false, Bool.false_eq_true, decide_eq_true_eq, decide_eq_false_iff_not, Bool.not_eq_true', Bool.not_eq_false', decide_true, decide_false, Nat.reduceShiftRight, Nat.reduceMod, Nat.reduceEqDiff, Nat.reduceAdd, ↓reduceIte, reduceCtorEq, List.getElem?_cons_zero, List.getElem?_cons_succ, g0, k0, g3, k3, g7, k7, g8, k8, lt_false hlt]
    have : i = (els d).length := by omega
    subst this
    rw [List.take_length] at hsl
    exact hK c s' hsl
end Au
