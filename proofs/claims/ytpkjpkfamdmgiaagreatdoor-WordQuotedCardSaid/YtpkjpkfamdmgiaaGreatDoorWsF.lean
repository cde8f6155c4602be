import Derived.Test.YtpkjpkfamdmgiaaGreatDoorWsE
namespace Ws
open Go Go.Proofs Ev
set_option linter.unusedVariables false
set_option linter.unusedSimpArgs false
set_option linter.unnecessarySimpa false
set_option maxRecDepth 100000
def textS (cs : List (Nat × Bool)) : Str := txS (cs.map Prod.fst) .nil
theorem text21 (X : T Ext) (hX : (En X).ext.get 21 = none) (d : D) (cs : List (Nat × Bool)) (hd : IsEls 2 d) (he : els d = cs.map elC) (hn : cs.length ≤ 100000) (s : St) (K : V → St → Prop) (hK : ∀ s', K (.w (.c (.str (textS cs)))) s') :
    goC (En X) 21 [.c d.toC] s K := by
  refine goC_body hX (kp21 X) (fn21 X) rfl (by kernel_rfl) ?_
  have hres : Tryz.f21.results.toList = [.tmp 2] := rfl
  have hlen : ∀ look, len (En X) 40 look d.toC = some cs.length := fun look => by rw [len_els (us40 X) hd, he, List.length_map]
  simp only [go_seq, go_region, go_move, go_assign, go_len, go_binOp, go_block, go_scope, go_label, go_skip, go_exit, go_ret, go_ops_nil, go_load, go_fieldAddr, go_unOp, go_pick, go_indexAddr, go_slice, go_append, go_alloc, go_box, go_store, go_buildSlice, go_index, go_field, go_extract, go_build, go_nilCheck, go_lookup, go_mapUpdate, go_b, go_nil, goE_nil, goE_nm, goE_ex_c, goE_ret_c, goE_ex_b, goE_ret_b, go_guard, go_lookup, go_mapUpdate, go_cond, goB_tt, goB_ff, goG_tt, goG_ff, goO_some, goV_ok, goN_some, goV_okR, opnd_tmp, opnd_int, opnd_bool, opnd_nils, opnd_nilp, opnd_str, A.get_putP, A.get_baseP, L.get_consP, L.get_setP, L.get_nilP, tbit_eqP, kept_true, kept_false, A.keep_put, A.keep_base, A.flush_put, A.flush_base, putA_some, putA_none, argsA_cons, argsA_nil, toC_vc, toC_c, toW_vc, toW_w, toI_vc, toI_c, toB_vc, toB_c, toP_vc, toP_c, opC_tmp, opW_tmp, opI_tmp, opP_tmp, opC_int, opW_int, opI_int, opW_bool, opC_bool, opW_nils, opW_nilp, opC_nils, opW_str, rBin_eq, rUn_eq, rPick_eq, rLen_eq, rIndexAddr_eq, rFieldAddr_eq, rLoad_eq, aAppend_eq, aApp_eq, aStore_eq, retU_some, retCS_ok, retW_some, retC_some, b_lss, b_leq, b_gtr, b_geq, b_eql, b_neq, b_add, b_sub, b_mul, b_seql, b_sneq, u_not, goR_nm, goR_ret, resOf_nil, resOf_cons, resOne_tmp, tupOf_one, guardOk_eq, boolIs_t, boolIs_f, boolIs_t', boolIs_f', boolIs_skip, nBox_eq, rExtract_eq, resOne_cell, tupOf_two, cells_c, cells_agg, true_implies, false_implies, and_true, true_and, Bool.not_false, Bool.not_true, Bool.true_eq_false, Bool.false_eq_true, decide_eq_true_eq, decide_eq_false_iff_not, Bool.not_eq_true', Bool.not_eq_false', decide_true, decide_false, Nat.reduceShiftRight, Nat.reduceMod, Nat.reduceEqDiff, Nat.reduceAdd, ↓reduceIte, reduceCtorEq, List.getElem?_cons_zero, List.getElem?_cons_succ, hlen]
  generalize hdc : d.toC = dc at *
  refine go_loop (goL_inv (fun n' a' s' => ∃ i c, n' = cs.length - i ∧ i ≤ cs.length ∧ Has a' 3 (vc c) ∧ Has a' 6 (vc dc) ∧ Has a' 7 (vc (.int .i64 (Int.ofNat cs.length))) ∧ Has a' 8 (vc (.int .i64 (Int.ofNat i))) ∧ SlAt s' c 1 (((cs.take i).map Prod.fst).map elR)) (n := cs.length)
    ⟨0, .nils, rfl, Nat.zero_le _, ⟨rfl, rfl⟩, ⟨rfl, rfl⟩, ⟨rfl, rfl⟩, ⟨rfl, rfl⟩, by simpa using SlAt.nil _ 1⟩ ?_)
  rintro n' a' s' ⟨i, c, rfl, hi, ⟨g3, k3⟩, ⟨g6, k6⟩, ⟨g7, k7⟩, ⟨g8, k8⟩, hsl⟩
  by_cases hlt : i < cs.length
  · have hlt' : (Int.ofNat i < Int.ofNat cs.length) = True := by simpa using Int.ofNat_lt.2 hlt
    have hsu := nat_succ (show i < 9223372036854775807 by omega)
    obtain ⟨x, hx⟩ : ∃ x, cs[i]? = some x := ⟨_, List.getElem?_eq_getElem hlt⟩
    have hix : indexAddr (En X) 40 dc (Int.ofNat i) = some (.dp (elC x) 0) := by rw [← hdc]; exact index_els (us40 X) (sz65 X) hd (by rw [he]; exact getD_map hx)
    have ld : loadD (En X) 65 (elC x) 0 = some (.agg (cellsD (elC x))) := by rw [ld65]; rfl
    obtain ⟨s2, w2, r2, n2, o2⟩ := row_written s' [.int .i32 0, .bool false] (cellsD (elC x)) rfl
    have c0 : ldHC s2.h.get s'.nx 0 = some (.c (.int .i32 (Int.ofNat x.1))) := r2.ldC rfl
    have sl2 : SlAt s2 c 1 (((cs.take i).map Prod.fst).map elR) := by
      obtain ⟨h1, h2⟩ := hsl
      refine ⟨h1, h2.imp id ?_⟩
      rintro ⟨b, sh, anc, h3, h4, h5, h6⟩
      exact ⟨b, sh, anc, h3, by rw [o2 b h6]; exact h4, h5, by omega⟩
    have htk : ((cs.take (i + 1)).map Prod.fst).map elR = ((cs.take i).map Prod.fst).map elR ++ [elR x.1] := by
      rw [List.take_add_one, hx]; simp
    have sl3 := SlAt.newRow (y := .row (mkRow [.int .i32 (Int.ofNat x.1)])) sl2
    have hrow : (s2.new (.row (mkRow [.int .i32 (Int.ofNat x.1)]))).h.get s2.nx = some (.row ⟨T.ofL [.int .i32 (Int.ofNat x.1)], 1, true, 0, []⟩) := by rw [row_newC, mkRow_eq]; rfl
    have hn := newCells_one (z := 1) (x := elR x.1) hrow (T.getL_ofL _) (some 1)
    obtain ⟨c', s4, happ, sl4, kp4, hc4⟩ := app_cells (y := .sl s2.nx 0 1 (some 1) 1) (l := [elR x.1]) (el63 X) (by rw [ti21.1]; exact sl3) (by rw [ti21.1]; intro x hx; simp at hx; subst hx; rfl) (by rw [ti21.1]; decide)
      (by rw [ti21.1]; exact hn) (by rw [ti21.2]; have : maxBytes = 140737488355328 := rfl; simp; omega)
    rw [ti21.1, ← htk] at sl4
    simp only [go_seq, go_region, go_move, go_assign, go_len, go_binOp, go_block, go_scope, go_label, go_skip, go_exit, go_ret, go_ops_nil, go_load, go_fieldAddr, go_unOp, go_pick, go_indexAddr, go_slice, go_append, go_alloc, go_box, go_store, go_buildSlice, go_index, go_field, go_extract, go_build, go_nilCheck, go_lookup, go_mapUpdate, go_b, go_nil, goE_nil, goE_nm, goE_ex_c, goE_ret_c, goE_ex_b, goE_ret_b, go_guard, go_lookup, go_mapUpdate, go_cond, goB_tt, goB_ff, goG_tt, goG_ff, goO_some, goV_ok, goN_some, goV_okR, opnd_tmp, opnd_int, opnd_bool, opnd_nils, opnd_nilp, opnd_str, A.get_putP, A.get_baseP, L.get_consP, L.get_setP, L.get_nilP, tbit_eqP, kept_true, kept_false, A.keep_put, A.keep_base, A.flush_put, A.flush_base, putA_some, putA_none, argsA_cons, argsA_nil, toC_vc, toC_c, toW_vc, toW_w, toI_vc, toI_c, toB_vc, toB_c, toP_vc, toP_c, opC_tmp, opW_tmp, opI_tmp, opP_tmp, opC_int, opW_int, opI_int, opW_bool, opC_bool, opW_nils, opW_nilp, opC_nils, opW_str, rBin_eq, rUn_eq, rPick_eq, rLen_eq, rIndexAddr_eq, rFieldAddr_eq, rLoad_eq, aAppend_eq, aApp_eq, aStore_eq, retU_some, retCS_ok, retW_some, retC_some, b_lss, b_leq, b_gtr, b_geq, b_eql, b_neq, b_add, b_sub, b_mul, b_seql, b_sneq, u_not, goR_nm, goR_ret, resOf_nil, resOf_cons, resOne_tmp, tupOf_one, guardOk_eq, boolIs_t, boolIs_f, boolIs_t', boolIs_f', boolIs_skip, nBox_eq, rExtract_eq, resOne_cell, tupOf_two, cells_c, cells_agg, true_implies, false_implies, and_true, true_and, Bool.not_false, Bool.not_true, Bool.true_eq_false, Bool.false_eq_true, decide_eq_true_eq, decide_eq_false_iff_not, Bool.not_eq_true', Bool.not_eq_false', decide_true, decide_false, Nat.reduceShiftRight, Nat.reduceMod, Nat.reduceEqDiff, Nat.reduceAdd, ↓reduceIte, reduceCtorEq, List.getElem?_cons_zero, List.getElem?_cons_succ, g3, k3, g6, k6, g7, k7, g8, k8, hlt', hix, ld, al65, st65, show (cellsD (elC x)).length = 2 from rfl, w2, fA_65_0, ldh21, c0, nBuildSlice_eq, partsOf_cons, partsOf_nil, bS63_1, us63, happ, hsu]
    refine ⟨_, ?_, i + 1, c', rfl, hlt, ⟨?_, ?_⟩, ⟨?_, ?_⟩, ⟨?_, ?_⟩, ⟨?_, ?_⟩, sl4⟩
    all_goals first | (simp only [opnd_tmp, opnd_int, opnd_bool, opnd_nils, opnd_nilp, opnd_str, A.get_putP, A.get_baseP, L.get_consP, L.get_setP, L.get_nilP, tbit_eqP, kept_true, kept_false, A.keep_put, A.keep_base, A.flush_put, A.flush_base, putA_some, putA_none, argsA_cons, argsA_nil, toC_vc, toC_c, toW_vc, toW_w, toI_vc, toI_c, toB_vc, toB_c, toP_vc, toP_c, opC_tmp, opW_tmp, opI_tmp, opP_tmp, opC_int, opW_int, opI_int, opW_bool, opC_bool, opW_nils, opW_nilp, opC_nils, opW_str, cells_c, cells_agg, Bool.not_false, Bool.not_true, Bool.true_eq_false, Bool.false_eq_true, decide_eq_true_eq, decide_eq_false_iff_not, Bool.not_eq_true', Bool.not_eq_false', decide_true, decide_false, Nat.reduceShiftRight, Nat.reduceMod, Nat.reduceEqDiff, Nat.reduceAdd, ↓reduceIte, reduceCtorEq, List.getElem?_cons_zero, List.getElem?_cons_succ, g3, k3, g6, k6, g7, k7, g8, k8]; done) | omega
  · have hlt' : (Int.ofNat i < Int.ofNat cs.length) = False := by simpa using fun h => hlt (Int.ofNat_lt.1 h)
    rw [List.take_of_length_le (by omega)] at hsl
    have hcv := conv_text X hsl
    simp only [go_seq, go_region, go_move, go_assign, go_len, go_binOp, go_block, go_scope, go_label, go_skip, go_exit, go_ret, go_ops_nil, go_load, go_fieldAddr, go_unOp, go_pick, go_indexAddr, go_slice, go_append, go_alloc, go_box, go_store, go_buildSlice, go_index, go_field, go_extract, go_build, go_nilCheck, go_lookup, go_mapUpdate, go_b, go_nil, goE_nil, goE_nm, goE_ex_c, goE_ret_c, goE_ex_b, goE_ret_b, go_guard, go_lookup, go_mapUpdate, go_cond, goB_tt, goB_ff, goG_tt, goG_ff, goO_some, goV_ok, goN_some, goV_okR, opnd_tmp, opnd_int, opnd_bool, opnd_nils, opnd_nilp, opnd_str, A.get_putP, A.get_baseP, L.get_consP, L.get_setP, L.get_nilP, tbit_eqP, kept_true, kept_false, A.keep_put, A.keep_base, A.flush_put, A.flush_base, putA_some, putA_none, argsA_cons, argsA_nil, toC_vc, toC_c, toW_vc, toW_w, toI_vc, toI_c, toB_vc, toB_c, toP_vc, toP_c, opC_tmp, opW_tmp, opI_tmp, opP_tmp, opC_int, opW_int, opI_int, opW_bool, opC_bool, opW_nils, opW_nilp, opC_nils, opW_str, rBin_eq, rUn_eq, rPick_eq, rLen_eq, rIndexAddr_eq, rFieldAddr_eq, rLoad_eq, aAppend_eq, aApp_eq, aStore_eq, retU_some, retCS_ok, retW_some, retC_some, b_lss, b_leq, b_gtr, b_geq, b_eql, b_neq, b_add, b_sub, b_mul, b_seql, b_sneq, u_not, goR_nm, goR_ret, resOf_nil, resOf_cons, resOne_tmp, tupOf_one, guardOk_eq, boolIs_t, boolIs_f, boolIs_t', boolIs_f', boolIs_skip, nBox_eq, rExtract_eq, resOne_cell, tupOf_two, cells_c, cells_agg, true_implies, false_implies, and_true, true_and, Bool.not_false, Bool.not_true, Bool.true_eq_false, Bool.false_eq_true, decide_eq_true_eq, decide_eq_false_iff_not, Bool.not_eq_true', Bool.not_eq_false', decide_true, decide_false, Nat.reduceShiftRight, Nat.reduceMod, Nat.reduceEqDiff, Nat.reduceAdd, ↓reduceIte, reduceCtorEq, List.getElem?_cons_zero, List.getElem?_cons_succ, g3, k3, g6, k6, g7, k7, g8, k8, hlt', go_convert, isNew9, rConvert_eq, hcv, hres]
    exact hK _
def RText (ps : List PW) (v : PV) : Prop := ∃ d cs, ps = [.c d] ∧ IsEls 2 d ∧ els d = cs.map elC ∧ cs.length ≤ 100000 ∧ v = .w (.c (.str (textS cs)))
noncomputable def e21 : Nat × Ext := (21, .fn (ofG RText) [])
theorem c21 : OkE Tryz.prog e21 := fn_goE (exts := []) Wk.any_ok Wk.types_ok fns_ok oks0 rfl [] rfl _ (by
  rintro ps pv ⟨d, cs, rfl, hd, he, hn, rfl⟩
  exact text21 _ rfl d cs hd he hn _ _ fun s' => ⟨[], rfl⟩)
theorem elC_inj {a b : Nat × Bool} (h : elC a = elC b) : a = b := by
  obtain ⟨a1, a2⟩ := a; obtain ⟨b1, b2⟩ := b
  simp only [elC, List.cons.injEq, D.int.injEq, D.bool.injEq, true_and, and_true] at h
  have h1 : ((a1 : Nat) : Int) = (b1 : Int) := h.1
  rw [h.2, show a1 = b1 by omega]
theorem mapC_inj {a b : List (Nat × Bool)} (h : a.map elC = b.map elC) : a = b := List.map_inj_right (fun x y => elC_inj) |>.1 h
theorem callR_text {X : T Ext} (h21 : (En X).ext.get 21 = some (.fn (ofG RText) [])) (d : D) (cs : List (Nat × Bool)) (hd : IsEls 2 d) (he : els d = cs.map elC) (hn : cs.length ≤ 100000) (hp : d.plain = true) (s : St) : CallR (En X) 21 [.c d.toC] s (.w (.c (.str (textS cs)))) s :=
  callR_fn (ps := [.c d]) (pv := .w (.c (.str (textS cs)))) h21 (ofG_eq ⟨d, cs, rfl, hd, he, hn, rfl⟩ (by
    rintro v' ⟨d', cs', h1, _, h2, _, rfl⟩
    cases h1
    rw [he] at h2
    rw [mapC_inj h2])) (by simp [PW.plain, hp])
def RJoin (ps : List PW) (v : PV) : Prop := ∃ l : List Rn, ps = [.c (.sl 4 (l.map elN))] ∧ (∀ x ∈ l, x.t.length ≤ 1000) ∧ l.length ≤ 100 ∧ v = .w (.c (slD 2 ((joinC l).map elC)))
noncomputable def e37 : Nat × Ext := (37, .fn (ofG RJoin) [])
theorem c37 : OkE Tryz.prog e37 := fn_goE (exts := [e29]) Wk.any_ok Wk.types_ok fns_ok (oks1 c29 oks0) rfl [] rfl _ (by
  rintro ps pv ⟨l, rfl, hl, hn, rfl⟩
  refine join37 _ rfl rfl l hl hn _ _ fun c s' h => ?_
  obtain ⟨bs, hf⟩ := SlAt.frz h (elC_plain _) (by decide)
  exact ⟨bs, frz_c hf⟩)
theorem elN_inj {a b : Rn} (h : elN a = elN b) : a = b := by
  obtain ⟨a1, a2, a3⟩ := a; obtain ⟨b1, b2, b3⟩ := b
  simp only [elN, List.cons.injEq, D.str.injEq, D.bool.injEq, and_true] at h
  rw [ofL_inj h.1, h.2.1, h.2.2]
theorem callR_join {X : T Ext} (h37 : (En X).ext.get 37 = some (.fn (ofG RJoin) [])) (l : List Rn) (hl : ∀ x ∈ l, x.t.length ≤ 1000) (hn : l.length ≤ 100) (s : St) : CallR (En X) 37 [.c (.dat 4 (l.map elN))] s (.w (.c (slD 2 ((joinC l).map elC)).toC)) s :=
  callR_fn (ps := [.c (.sl 4 (l.map elN))]) (pv := .w (.c (slD 2 ((joinC l).map elC)))) h37 (ofG_eq ⟨l, rfl, hl, hn, rfl⟩ (by
    rintro v' ⟨l', h1, _, _, rfl⟩
    simp only [List.cons.injEq, PW.c.injEq, D.sl.injEq, and_true, true_and] at h1
    rw [List.map_inj_right (fun x y => elN_inj) |>.1 h1])) rfl
end Ws
