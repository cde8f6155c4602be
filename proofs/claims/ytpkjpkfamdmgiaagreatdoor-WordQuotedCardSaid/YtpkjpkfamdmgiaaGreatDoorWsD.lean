import Derived.Test.YtpkjpkfamdmgiaaGreatDoorWsC
namespace Ws
open Go Go.Proofs Ev
set_option linter.unusedVariables false
set_option linter.unusedSimpArgs false
set_option linter.unnecessarySimpa false
set_option maxRecDepth 100000
theorem els_slD (z : Nat) (l : List (List D)) : els (slD z l) = l := by cases l <;> rfl
theorem isEls_slD {z : Nat} {l : List (List D)} (h : ∀ x ∈ l, x.length = z) : IsEls z (slD z l) := by
  cases l with
  | nil => exact .inl rfl
  | cons x l => exact .inr ⟨_, rfl, h⟩
theorem slD_plain (z : Nat) (l : List (List D)) : (slD z l).plain = true := by cases l <;> rfl
theorem frz_c {s : St} {c : C} {d : D} {bs : List Nat} (h : frzC s.h.get 2000 c = some (d, bs)) : frzV s.h.get (vc c) = some (.w (.c d), bs) := by
  simp only [vc, frzV, frzW, h]
theorem fns_ok : kps.all (fun p => fnOk Tryz.prog p.1) = true := Wk.fns_ok
def RRunes (ps : List PW) (v : PV) : Prop := ∃ l : List UInt8, ps = [.c (.str (Str.ofL l))] ∧ l.length ≤ 1000 ∧ v = .w (.c (slD 1 ((runes l).map elR)))
noncomputable def e45 : Nat × Ext := (45, .fn (ofG RRunes) [])
theorem c45 : OkE Tryz.prog e45 := fn_goE (exts := []) Wk.any_ok Wk.types_ok fns_ok oks0 rfl [] rfl _ (by
  rintro ps pv ⟨l, rfl, hl, rfl⟩
  refine runes45 _ rfl l hl _ _ fun c s' h => ?_
  obtain ⟨bs, hf⟩ := SlAt.frz h (elR_plain _) (Nat.le_refl 1)
  exact ⟨bs, frz_c hf⟩)
theorem callR_runes {X : T Ext} (h45 : (En X).ext.get 45 = some (.fn (ofG RRunes) [])) (l : List UInt8) (hl : l.length ≤ 1000) (s : St) : CallR (En X) 45 [.c (.str (Str.ofL l))] s (.w (.c (slD 1 ((runes l).map elR)).toC)) s :=
  callR_fn (ps := [.c (.str (Str.ofL l))]) (pv := .w (.c (slD 1 ((runes l).map elR)))) h45 (ofG_eq ⟨l, rfl, hl, rfl⟩ (by
    rintro v' ⟨l', h1, _, rfl⟩
    simp only [List.cons.injEq, PW.c.injEq, D.str.injEq, and_true] at h1
    rw [ofL_inj h1])) rfl
def elC (x : Nat × Bool) : List D := [.int .i32 (Int.ofNat x.1), .bool x.2]
theorem elC_two (l : List (Nat × Bool)) : ∀ x ∈ l.map elC, x.length = 2 := by
  intro x hx
  obtain ⟨r, _, rfl⟩ := List.mem_map.1 hx; rfl
theorem elC_plain (l : List (Nat × Bool)) : (l.map elC).flatten.all D.plain = true := by
  rw [List.all_eq_true]
  intro d hd
  obtain ⟨x, hx, hdx⟩ := List.mem_flatten.1 hd
  obtain ⟨r, _, rfl⟩ := List.mem_map.1 hx
  simp only [elC, List.mem_cons, List.not_mem_nil, or_false] at hdx
  rcases hdx with rfl | rfl <;> rfl
theorem bu65 (X : T Ext) (c1 c2 : C) : build (En X) 65 [(0, .c c1), (1, .c c2)] = some (.agg [c1, c2]) := by kernel_rfl
def withQ (q : Bool) (r : Nat) : Nat × Bool := (r, q)
theorem getD_map {α β : Type} {f : α → β} {l : List α} {i : Nat} {a : α} (h : l[i]? = some a) : (l.map f)[i]? = some (f a) := by rw [List.getElem?_map, h]; rfl
theorem chars29 (X : T Ext) (hX : (En X).ext.get 29 = none) (h45 : (En X).ext.get 45 = some (.fn (ofG RRunes) [])) (v : List UInt8) (q : Bool) (hv : v.length ≤ 1000) (s : St) (K : V → St → Prop) (hK : ∀ c s', SlAt s' c 2 (((runes v).map (withQ q)).map elC) → K (vc c) s') :
    goC (En X) 29 [.c (.str (Str.ofL v)), .c (.bool q)] s K := by
  refine goC_body hX (kp29 X) (fn29 X) rfl (by kernel_rfl) ?_
  have hres : Tryz.f29.results.toList = [.tmp 4] := rfl
  have hrl := runes_len v
  obtain ⟨rs, hrs⟩ : ∃ rs, rs = runes v := ⟨_, rfl⟩
  rw [← hrs] at hK hrl
  have hcall := callR_runes h45 v hv s
  rw [← hrs] at hcall
  have hie : IsEls 1 (slD 1 (rs.map elR)) := isEls_slD (elR_one rs)
  have hlen : ∀ look, len (En X) 63 look (slD 1 (rs.map elR)).toC = some rs.length := fun look => by rw [len_els (us63 X) hie, els_slD, List.length_map]
  simp only [go_seq, go_region, go_move, go_assign, go_len, go_binOp, go_block, go_scope, go_label, go_skip, go_exit, go_ret, go_ops_nil, go_load, go_fieldAddr, go_unOp, go_pick, go_indexAddr, go_slice, go_append, go_alloc, go_box, go_store, go_buildSlice, go_index, go_field, go_extract, go_build, go_nilCheck, go_lookup, go_mapUpdate, go_b, go_nil, goE_nil, goE_nm, goE_ex_c, goE_ret_c, goE_ex_b, goE_ret_b, go_guard, go_lookup, go_mapUpdate, go_cond, goB_tt, goB_ff, goG_tt, goG_ff, goO_some, goV_ok, goN_some, goV_okR, opnd_tmp, opnd_int, opnd_bool, opnd_nils, opnd_nilp, opnd_str, A.get_putP, A.get_baseP, L.get_consP, L.get_setP, L.get_nilP, tbit_eqP, kept_true, kept_false, A.keep_put, A.keep_base, A.flush_put, A.flush_base, putA_some, putA_none, argsA_cons, argsA_nil, toC_vc, toC_c, toW_vc, toW_w, toI_vc, toI_c, toB_vc, toB_c, toP_vc, toP_c, opC_tmp, opW_tmp, opI_tmp, opP_tmp, opC_int, opW_int, opI_int, opW_bool, opC_bool, opW_nils, opW_nilp, opC_nils, opW_str, rBin_eq, rUn_eq, rPick_eq, rLen_eq, rIndexAddr_eq, rFieldAddr_eq, rLoad_eq, aAppend_eq, aApp_eq, aStore_eq, retU_some, retCS_ok, retW_some, retC_some, b_lss, b_leq, b_gtr, b_geq, b_eql, b_neq, b_add, b_sub, b_mul, b_seql, b_sneq, u_not, goR_nm, goR_ret, resOf_nil, resOf_cons, resOne_tmp, tupOf_one, guardOk_eq, boolIs_t, boolIs_f, boolIs_t', boolIs_f', boolIs_skip, nBox_eq, rExtract_eq, resOne_cell, tupOf_two, cells_c, cells_agg, true_implies, false_implies, and_true, true_and, Bool.not_false, Bool.not_true, Bool.true_eq_false, Bool.false_eq_true, decide_eq_true_eq, decide_eq_false_iff_not, Bool.not_eq_true', Bool.not_eq_false', decide_true, decide_false, Nat.reduceShiftRight, Nat.reduceMod, Nat.reduceEqDiff, Nat.reduceAdd, ↓reduceIte, reduceCtorEq, List.getElem?_cons_zero, List.getElem?_cons_succ]
  refine go_call _ _ _ _ _ _ (ws := [.c (.str (Str.ofL v))]) rfl (by simp only [opnd_tmp, opnd_int, opnd_bool, opnd_nils, opnd_nilp, opnd_str, A.get_putP, A.get_baseP, L.get_consP, L.get_setP, L.get_nilP, tbit_eqP, kept_true, kept_false, A.keep_put, A.keep_base, A.flush_put, A.flush_base, putA_some, putA_none, argsA_cons, argsA_nil, toC_vc, toC_c, toW_vc, toW_w, toI_vc, toI_c, toB_vc, toB_c, toP_vc, toP_c, opC_tmp, opW_tmp, opI_tmp, opP_tmp, opC_int, opW_int, opI_int, opW_bool, opC_bool, opW_nils, opW_nilp, opC_nils, opW_str, cells_c, cells_agg, Bool.not_false, Bool.not_true, Bool.true_eq_false, Bool.false_eq_true, decide_eq_true_eq, decide_eq_false_iff_not, Bool.not_eq_true', Bool.not_eq_false', decide_true, decide_false, Nat.reduceShiftRight, Nat.reduceMod, Nat.reduceEqDiff, Nat.reduceAdd, ↓reduceIte, reduceCtorEq, List.getElem?_cons_zero, List.getElem?_cons_succ, argsOf_cons, argsOf_nil]) ?_
  refine goC_of hcall ?_
  generalize hd : (slD 1 (rs.map elR)).toC = dc at *
  simp only [go_seq, go_region, go_move, go_assign, go_len, go_binOp, go_block, go_scope, go_label, go_skip, go_exit, go_ret, go_ops_nil, go_load, go_fieldAddr, go_unOp, go_pick, go_indexAddr, go_slice, go_append, go_alloc, go_box, go_store, go_buildSlice, go_index, go_field, go_extract, go_build, go_nilCheck, go_lookup, go_mapUpdate, go_b, go_nil, goE_nil, goE_nm, goE_ex_c, goE_ret_c, goE_ex_b, goE_ret_b, go_guard, go_lookup, go_mapUpdate, go_cond, goB_tt, goB_ff, goG_tt, goG_ff, goO_some, goV_ok, goN_some, goV_okR, opnd_tmp, opnd_int, opnd_bool, opnd_nils, opnd_nilp, opnd_str, A.get_putP, A.get_baseP, L.get_consP, L.get_setP, L.get_nilP, tbit_eqP, kept_true, kept_false, A.keep_put, A.keep_base, A.flush_put, A.flush_base, putA_some, putA_none, argsA_cons, argsA_nil, toC_vc, toC_c, toW_vc, toW_w, toI_vc, toI_c, toB_vc, toB_c, toP_vc, toP_c, opC_tmp, opW_tmp, opI_tmp, opP_tmp, opC_int, opW_int, opI_int, opW_bool, opC_bool, opW_nils, opW_nilp, opC_nils, opW_str, rBin_eq, rUn_eq, rPick_eq, rLen_eq, rIndexAddr_eq, rFieldAddr_eq, rLoad_eq, aAppend_eq, aApp_eq, aStore_eq, retU_some, retCS_ok, retW_some, retC_some, b_lss, b_leq, b_gtr, b_geq, b_eql, b_neq, b_add, b_sub, b_mul, b_seql, b_sneq, u_not, goR_nm, goR_ret, resOf_nil, resOf_cons, resOne_tmp, tupOf_one, guardOk_eq, boolIs_t, boolIs_f, boolIs_t', boolIs_f', boolIs_skip, nBox_eq, rExtract_eq, resOne_cell, tupOf_two, cells_c, cells_agg, true_implies, false_implies, and_true, true_and, Bool.not_false, Bool.not_true, Bool.true_eq_false, Bool.false_eq_true, decide_eq_true_eq, decide_eq_false_iff_not, Bool.not_eq_true', Bool.not_eq_false', decide_true, decide_false, Nat.reduceShiftRight, Nat.reduceMod, Nat.reduceEqDiff, Nat.reduceAdd, ↓reduceIte, reduceCtorEq, List.getElem?_cons_zero, List.getElem?_cons_succ, hlen]
  refine go_loop (goL_inv (fun n' a' s' => ∃ i c, n' = rs.length - i ∧ i ≤ rs.length ∧ Has a' 1 (vc (.bool q)) ∧ Has a' 5 (vc c) ∧ Has a' 9 (vc dc) ∧ Has a' 10 (vc (.int .i64 (Int.ofNat rs.length))) ∧ Has a' 11 (vc (.int .i64 (Int.ofNat i))) ∧ SlAt s' c 2 (((rs.take i).map (withQ q)).map elC)) (n := rs.length)
    ⟨0, .nils, rfl, Nat.zero_le _, ⟨rfl, rfl⟩, ⟨rfl, rfl⟩, ⟨rfl, rfl⟩, ⟨rfl, rfl⟩, ⟨rfl, rfl⟩, by simpa using SlAt.nil _ 2⟩ ?_)
  rintro n' a' s' ⟨i, c, rfl, hi, ⟨g1, k1⟩, ⟨g5, k5⟩, ⟨g9, k9⟩, ⟨g10, k10⟩, ⟨g11, k11⟩, hsl⟩
  by_cases hlt : i < rs.length
  · have hlt' : (Int.ofNat i < Int.ofNat rs.length) = True := by simpa using Int.ofNat_lt.2 hlt
    have hsu := nat_succ (show i < 9223372036854775807 by omega)
    obtain ⟨r, hr⟩ : ∃ r, rs[i]? = some r := ⟨_, List.getElem?_eq_getElem hlt⟩
    have hix : indexAddr (En X) 63 dc (Int.ofNat i) = some (.dp (elR r) 0) := by rw [← hd]; exact index_els (us63 X) (sz21 X) hie (by rw [els_slD]; exact getD_map hr)
    have ld : loadD (En X) 21 (elR r) 0 = some (.c (.int .i32 (Int.ofNat r))) := by rw [ld21]; rfl
    have htk : ((rs.take (i + 1)).map (withQ q)).map elC = ((rs.take i).map (withQ q)).map elC ++ [elC (r, q)] := by
      rw [List.take_add_one, hr]; simp [withQ]
    have sl3 := SlAt.newRow (y := .row (mkRow [.int .i32 (Int.ofNat r), .bool q])) hsl
    have hrow : (s'.new (.row (mkRow [.int .i32 (Int.ofNat r), .bool q]))).h.get s'.nx = some (.row ⟨T.ofL [.int .i32 (Int.ofNat r), .bool q], 2, true, 0, []⟩) := by rw [row_newC, mkRow_eq]; rfl
    have hn := newCells_one (z := 2) (x := elC (r, q)) hrow (T.getL_ofL _) (some 1)
    obtain ⟨c', s4, happ, sl4, kp4, hc4⟩ := app_cells (y := .sl s'.nx 0 1 (some 1) 2) (l := [elC (r, q)]) (el40 X) (by rw [ti65.1]; exact sl3) (by rw [ti65.1]; intro x hx; simp at hx; subst hx; rfl) (by rw [ti65.1]; decide)
      (by rw [ti65.1]; exact hn) (by rw [ti65.2]; have : maxBytes = 140737488355328 := rfl; simp; omega)
    rw [ti65.1, ← htk] at sl4
    simp only [go_seq, go_region, go_move, go_assign, go_len, go_binOp, go_block, go_scope, go_label, go_skip, go_exit, go_ret, go_ops_nil, go_load, go_fieldAddr, go_unOp, go_pick, go_indexAddr, go_slice, go_append, go_alloc, go_box, go_store, go_buildSlice, go_index, go_field, go_extract, go_build, go_nilCheck, go_lookup, go_mapUpdate, go_b, go_nil, goE_nil, goE_nm, goE_ex_c, goE_ret_c, goE_ex_b, goE_ret_b, go_guard, go_lookup, go_mapUpdate, go_cond, goB_tt, goB_ff, goG_tt, goG_ff, goO_some, goV_ok, goN_some, goV_okR, opnd_tmp, opnd_int, opnd_bool, opnd_nils, opnd_nilp, opnd_str, A.get_putP, A.get_baseP, L.get_consP, L.get_setP, L.get_nilP, tbit_eqP, kept_true, kept_false, A.keep_put, A.keep_base, A.flush_put, A.flush_base, putA_some, putA_none, argsA_cons, argsA_nil, toC_vc, toC_c, toW_vc, toW_w, toI_vc, toI_c, toB_vc, toB_c, toP_vc, toP_c, opC_tmp, opW_tmp, opI_tmp, opP_tmp, opC_int, opW_int, opI_int, opW_bool, opC_bool, opW_nils, opW_nilp, opC_nils, opW_str, rBin_eq, rUn_eq, rPick_eq, rLen_eq, rIndexAddr_eq, rFieldAddr_eq, rLoad_eq, aAppend_eq, aApp_eq, aStore_eq, retU_some, retCS_ok, retW_some, retC_some, b_lss, b_leq, b_gtr, b_geq, b_eql, b_neq, b_add, b_sub, b_mul, b_seql, b_sneq, u_not, goR_nm, goR_ret, resOf_nil, resOf_cons, resOne_tmp, tupOf_one, guardOk_eq, boolIs_t, boolIs_f, boolIs_t', boolIs_f', boolIs_skip, nBox_eq, rExtract_eq, resOne_cell, tupOf_two, cells_c, cells_agg, true_implies, false_implies, and_true, true_and, Bool.not_false, Bool.not_true, Bool.true_eq_false, Bool.false_eq_true, decide_eq_true_eq, decide_eq_false_iff_not, Bool.not_eq_true', Bool.not_eq_false', decide_true, decide_false, Nat.reduceShiftRight, Nat.reduceMod, Nat.reduceEqDiff, Nat.reduceAdd, ↓reduceIte, reduceCtorEq, List.getElem?_cons_zero, List.getElem?_cons_succ, g1, k1, g5, k5, g9, k9, g10, k10, g11, k11, hlt', hix, ld, rBuild_eq, partsOf_cons, partsOf_nil, bu65, nBuildSlice_eq, bS40_1, us40, happ, hsu]
    refine ⟨_, ?_, i + 1, c', rfl, hlt, ⟨?_, ?_⟩, ⟨?_, ?_⟩, ⟨?_, ?_⟩, ⟨?_, ?_⟩, ⟨?_, ?_⟩, sl4⟩
    all_goals first | (simp only [opnd_tmp, opnd_int, opnd_bool, opnd_nils, opnd_nilp, opnd_str, A.get_putP, A.get_baseP, L.get_consP, L.get_setP, L.get_nilP, tbit_eqP, kept_true, kept_false, A.keep_put, A.keep_base, A.flush_put, A.flush_base, putA_some, putA_none, argsA_cons, argsA_nil, toC_vc, toC_c, toW_vc, toW_w, toI_vc, toI_c, toB_vc, toB_c, toP_vc, toP_c, opC_tmp, opW_tmp, opI_tmp, opP_tmp, opC_int, opW_int, opI_int, opW_bool, opC_bool, opW_nils, opW_nilp, opC_nils, opW_str, cells_c, cells_agg, Bool.not_false, Bool.not_true, Bool.true_eq_false, Bool.false_eq_true, decide_eq_true_eq, decide_eq_false_iff_not, Bool.not_eq_true', Bool.not_eq_false', decide_true, decide_false, Nat.reduceShiftRight, Nat.reduceMod, Nat.reduceEqDiff, Nat.reduceAdd, ↓reduceIte, reduceCtorEq, List.getElem?_cons_zero, List.getElem?_cons_succ, g1, k1, g5, k5, g9, k9, g10, k10, g11, k11]; done) | omega
  · have hlt' : (Int.ofNat i < Int.ofNat rs.length) = False := by simpa using fun h => hlt (Int.ofNat_lt.1 h)
    rw [List.take_of_length_le (by omega)] at hsl
    simp only [go_seq, go_region, go_move, go_assign, go_len, go_binOp, go_block, go_scope, go_label, go_skip, go_exit, go_ret, go_ops_nil, go_load, go_fieldAddr, go_unOp, go_pick, go_indexAddr, go_slice, go_append, go_alloc, go_box, go_store, go_buildSlice, go_index, go_field, go_extract, go_build, go_nilCheck, go_lookup, go_mapUpdate, go_b, go_nil, goE_nil, goE_nm, goE_ex_c, goE_ret_c, goE_ex_b, goE_ret_b, go_guard, go_lookup, go_mapUpdate, go_cond, goB_tt, goB_ff, goG_tt, goG_ff, goO_some, goV_ok, goN_some, goV_okR, opnd_tmp, opnd_int, opnd_bool, opnd_nils, opnd_nilp, opnd_str, A.get_putP, A.get_baseP, L.get_consP, L.get_setP, L.get_nilP, tbit_eqP, kept_true, kept_false, A.keep_put, A.keep_base, A.flush_put, A.flush_base, putA_some, putA_none, argsA_cons, argsA_nil, toC_vc, toC_c, toW_vc, toW_w, toI_vc, toI_c, toB_vc, toB_c, toP_vc, toP_c, opC_tmp, opW_tmp, opI_tmp, opP_tmp, opC_int, opW_int, opI_int, opW_bool, opC_bool, opW_nils, opW_nilp, opC_nils, opW_str, rBin_eq, rUn_eq, rPick_eq, rLen_eq, rIndexAddr_eq, rFieldAddr_eq, rLoad_eq, aAppend_eq, aApp_eq, aStore_eq, retU_some, retCS_ok, retW_some, retC_some, b_lss, b_leq, b_gtr, b_geq, b_eql, b_neq, b_add, b_sub, b_mul, b_seql, b_sneq, u_not, goR_nm, goR_ret, resOf_nil, resOf_cons, resOne_tmp, tupOf_one, guardOk_eq, boolIs_t, boolIs_f, boolIs_t', boolIs_f', boolIs_skip, nBox_eq, rExtract_eq, resOne_cell, tupOf_two, cells_c, cells_agg, true_implies, false_implies, and_true, true_and, Bool.not_false, Bool.not_true, Bool.true_eq_false, Bool.false_eq_true, decide_eq_true_eq, decide_eq_false_iff_not, Bool.not_eq_true', Bool.not_eq_false', decide_true, decide_false, Nat.reduceShiftRight, Nat.reduceMod, Nat.reduceEqDiff, Nat.reduceAdd, ↓reduceIte, reduceCtorEq, List.getElem?_cons_zero, List.getElem?_cons_succ, g1, k1, g5, k5, g9, k9, g10, k10, g11, k11, hlt', hres]
    exact hK _ _ hsl
def charsOf (v : List UInt8) (q : Bool) : List (Nat × Bool) := (runes v).map (withQ q)
def RChars (ps : List PW) (v : PV) : Prop := ∃ (l : List UInt8) (q : Bool), ps = [.c (.str (Str.ofL l)), .c (.bool q)] ∧ l.length ≤ 1000 ∧ v = .w (.c (slD 2 ((charsOf l q).map elC)))
noncomputable def e29 : Nat × Ext := (29, .fn (ofG RChars) [])
theorem c29 : OkE Tryz.prog e29 := fn_goE (exts := [e45]) Wk.any_ok Wk.types_ok fns_ok (oks1 c45 oks0) rfl [] rfl _ (by
  rintro ps pv ⟨l, q, rfl, hl, rfl⟩
  refine chars29 _ rfl rfl l q hl _ _ fun c s' h => ?_
  obtain ⟨bs, hf⟩ := SlAt.frz h (elC_plain _) (by decide)
  exact ⟨bs, frz_c hf⟩)
theorem callR_chars {X : T Ext} (h29 : (En X).ext.get 29 = some (.fn (ofG RChars) [])) (l : List UInt8) (q : Bool) (hl : l.length ≤ 1000) (s : St) : CallR (En X) 29 [.c (.str (Str.ofL l)), .c (.bool q)] s (.w (.c (slD 2 ((charsOf l q).map elC)).toC)) s :=
  callR_fn (ps := [.c (.str (Str.ofL l)), .c (.bool q)]) (pv := .w (.c (slD 2 ((charsOf l q).map elC)))) h29 (ofG_eq ⟨l, q, rfl, hl, rfl⟩ (by
    rintro v' ⟨l', q', h1, _, rfl⟩
    simp only [List.cons.injEq, PW.c.injEq, D.str.injEq, D.bool.injEq, and_true] at h1
    rw [ofL_inj h1.1, h1.2])) rfl
end Ws
