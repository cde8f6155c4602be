import Derived.Test.YtoibclnkbfgmhaaDoorNuA
import Derived.Test.YtoibclnkbfgmhaaDoorNuM
import Derived.Test.YtoibclnkbfgmhaaDoorEwG
import Derived.Test.YtoibclnkbfgmhaaDoorEwG
namespace Nu
open Go Go.Proofs Ev Go.Lib
set_option linter.unusedVariables false
set_option linter.unusedSimpArgs false
set_option maxRecDepth 100000
theorem len_str (X : T Ext) (look : Look) (l : List UInt8) : len (En X) 9 look (.str (Str.ofL l)) = some l.length := by
  unfold len; rw [ustr9]; rfl
theorem rIndex_eq (E : Env) (a : A) (t : Nat) (x i : Operand) : rIndex E a t x i = match opW a x with
  | some w => match opI a i with
    | some n => retW (index E t w n)
    | none => none
  | none => none := rfl
theorem rConvert_eq (E : Env) (look : Look) (a : A) (s d : Nat) (x : Operand) : rConvert E look a s d x = match opC a x with
  | some c => retC (Ev.convert E s d c look)
  | none => none := rfl
theorem inB_nat {k n : Nat} (h : k < n) : inB (Int.ofNat k) n = some k := by
  unfold inB
  simp only []
  rw [show Nat.ble (Nat.succ k) n = true from nble_true h]
theorem index_str (X : T Ext) (l : List UInt8) {i : Nat} {c : UInt8} (h : l[i]? = some c) : index (En X) 9 (.c (.str (Str.ofL l))) (Int.ofNat i) = some (.c (.int .u8 (Int.ofNat c.toNat))) := by
  obtain ⟨hi, hc⟩ := List.getElem?_eq_some_iff.1 h
  unfold index
  rw [ustr9]
  show (match inB (Int.ofNat i) l.length with
    | some m => some (W.c (.int .u8 (Int.ofNat ((Str.ofL l).at m))))
    | none => none) = _
  rw [inB_nat hi]
  simp only []
  rw [Str.at_ofL l i hi, hc]
theorem cv52 (X : T Ext) (n : Nat) (look : Look) (h : n < 256) : Ev.convert (En X) 5 2 (.int .u8 (Int.ofNat n)) look = some (.int .i64 (Int.ofNat n)) := by
  unfold Ev.convert
  rw [uint5]
  simp only []
  rw [uint2]
  show intC .i64 (wrapK .i64 (Int.ofNat n)) = _
  rw [intC_eq]
  congr 2
  exact wrap_nat (by omega)
theorem b_quo (E : Env) (t : Nat) (ox oy : Operand) (m n : Int) (hn : n ≠ 0) : Ev.binOp E .quo t ox oy (.c (.int .i64 m)) (.c (.int .i64 n)) = some (vc (.int .i64 (wrapK .i64 (m.tdiv n)))) := by
  have hk : kEq .i64 .i64 = true := rfl
  have h0 : iEq n 0 = false := by rw [iEq_eq]; simpa using hn
  simp only [Ev.binOp, isShift, hk, intOp, h0, intC_eq, retC_some]
theorem w64 {n : Int} (h1 : -9223372036854775808 ≤ n) (h2 : n ≤ 9223372036854775807) : wrapK .i64 n = n := by
  rw [wrapK_eq]
  exact wrap_in _ _ h1 h2
theorem w8 {c : UInt8} (h : 48 ≤ c.toNat) : wrapK .u8 (Int.ofNat c.toNat - 48) = Int.ofNat (c.toNat - 48) := by
  have h2 := c.toNat_lt
  rw [show Int.ofNat c.toNat - 48 = Int.ofNat (c.toNat - 48) by show ((c.toNat : Nat) : Int) - 48 = ((c.toNat - 48 : Nat) : Int); omega, wrapK_eq]
  refine wrap_in _ _ ?_ ?_
  · show (0 : Int) ≤ ((c.toNat - 48 : Nat) : Int); omega
  · show ((c.toNat - 48 : Nat) : Int) ≤ 255; omega
def resN (o : Option Int) : V := .tup [.c (.int .i64 (o.getD 0)), .c (.bool o.isSome)]
theorem digits12 (X : T Ext) (hX : (En X).ext.get 12 = none) (l : List UInt8) (hd : l.all dig = true) (hl : l.length ≤ 1000) (s : St) (K : V → St → Prop) (hK : ∀ s', K (resN ((refB 9223372036854775807 0 l).map (fun u : Nat => (u : Int)))) s') :
    goC (En X) 12 [.c (.str (Str.ofL l))] s K := by
  refine goC_body hX (kp12 X) (fn12 X) rfl (by kernel_rfl) ?_
  simp only [go_seq, go_region, go_move, go_assign, go_len, go_binOp, go_block, go_scope, go_label, go_skip, go_exit, go_ret, go_ops_nil, go_load, go_fieldAddr, go_unOp, go_pick, go_indexAddr, go_slice, go_append, go_alloc, go_box, go_store, go_buildSlice, go_index, go_field, go_extract, go_build, go_nilCheck, go_lookup, go_mapUpdate, go_b, go_nil, goE_nil, goE_nm, goE_ex_c, goE_ret_c, goE_ex_b, goE_ret_b, go_guard, go_lookup, go_mapUpdate, go_cond, goB_tt, goB_ff, goG_tt, goG_ff, goO_some, goV_ok, goN_some, goV_okR, opnd_tmp, opnd_int, opnd_bool, opnd_nils, opnd_nilp, opnd_str, A.get_putP, A.get_baseP, L.get_consP, L.get_setP, L.get_nilP, tbit_eqP, kept_true, kept_false, A.keep_put, A.keep_base, A.flush_put, A.flush_base, putA_some, putA_none, argsA_cons, argsA_nil, toC_vc, toC_c, toW_vc, toW_w, toI_vc, toI_c, toB_vc, toB_c, toP_vc, toP_c, opC_tmp, opW_tmp, opI_tmp, opP_tmp, opC_int, opW_int, opI_int, opW_bool, opC_bool, opW_nils, opW_nilp, opC_nils, opW_str, rBin_eq, rUn_eq, rPick_eq, rLen_eq, rIndexAddr_eq, rFieldAddr_eq, rLoad_eq, aAppend_eq, aApp_eq, aStore_eq, retU_some, retCS_ok, retW_some, retC_some, b_lss, b_leq, b_gtr, b_geq, b_eql, b_neq, b_add, b_sub, b_mul, b_seql, b_sneq, u_not, goR_nm, goR_ret, resOf_nil, resOf_cons, resOne_tmp, tupOf_one, guardOk_eq, boolIs_t, boolIs_f, boolIs_t', boolIs_f', boolIs_skip, nBox_eq, rExtract_eq, resOne_cell, tupOf_two, cells_c, cells_agg, true_implies, false_implies, and_true, true_and, Bool.not_false, Bool.not_true, Bool.true_eq_false, Bool.false_eq_true, decide_eq_true_eq, decide_eq_false_iff_not, Bool.not_eq_true', Bool.not_eq_false', decide_true, decide_false, Nat.reduceShiftRight, Nat.reduceMod, Nat.reduceEqDiff, Nat.reduceAdd, ↓reduceIte, reduceCtorEq, List.getElem?_cons_zero, List.getElem?_cons_succ, len_str]
  have hres : Tryd.f12.results.toList = [.tmp 2, .tmp 3] := rfl
  refine go_loop (goL_inv (fun n a' s' => ∃ i m, n = l.length - i ∧ i ≤ l.length ∧ m ≤ 9223372036854775807 ∧ Has a' 0 (vc (.str (Str.ofL l))) ∧ Has a' 4 (vc (.int .i64 (Int.ofNat m))) ∧ Has a' 5 (vc (.int .i64 (Int.ofNat i))) ∧ refB 9223372036854775807 m (l.drop i) = refB 9223372036854775807 0 l) (n := l.length)
    ⟨0, 0, rfl, Nat.zero_le _, by omega, ⟨rfl, rfl⟩, ⟨rfl, rfl⟩, ⟨rfl, rfl⟩, rfl⟩ ?_)
  rintro n a' s' ⟨i, m, rfl, hi, hm, ⟨g0, k0⟩, ⟨g4, k4⟩, ⟨g5, k5⟩, hre⟩
  by_cases hlt : i < l.length
  · obtain ⟨c, hc⟩ : ∃ c, l[i]? = some c := ⟨_, List.getElem?_eq_getElem hlt⟩
    have hdc := (dig_iff c).1 (List.all_eq_true.1 hd c (List.mem_of_getElem? hc))
    have hix := index_str X l hc
    have hdr : l.drop i = c :: l.drop (i + 1) := by
      rw [List.drop_eq_getElem_cons hlt]
      congr 1
      have := List.getElem?_eq_getElem hlt
      rw [hc] at this; exact (Option.some.inj this).symm
    have hlt' : (Int.ofNat i < Int.ofNat l.length) = True := by simpa using Int.ofNat_lt.2 hlt
    have hsu := nat_succ (show i < 9223372036854775807 by omega)
    have hw8 := w8 hdc.1
    have hcv : ∀ look, Ev.convert (En X) 5 2 (.int .u8 (Int.ofNat (c.toNat - 48))) look = some (.int .i64 (Int.ofNat (c.toNat - 48))) := fun look => cv52 X _ look (by omega)
    generalize hdd : c.toNat - 48 = d at *
    have hsub : wrapK .i64 (9223372036854775807 - Int.ofNat d) = Int.ofNat (9223372036854775807 - d) := by
      rw [show (9223372036854775807 : Int) - Int.ofNat d = Int.ofNat (9223372036854775807 - d) by show (9223372036854775807 : Int) - ((d : Nat) : Int) = ((9223372036854775807 - d : Nat) : Int); omega]
      exact wrap_nat (by omega)
    have hquo : wrapK .i64 ((Int.ofNat (9223372036854775807 - d)).tdiv 10) = Int.ofNat ((9223372036854775807 - d) / 10) := by
      rw [show (Int.ofNat (9223372036854775807 - d)).tdiv 10 = Int.ofNat ((9223372036854775807 - d) / 10) from rfl]
      exact wrap_nat (by omega)
    have hbq := fun ox oy => b_quo (En X) 2 ox oy (Int.ofNat (9223372036854775807 - d)) 10 (by decide)
    by_cases hov : 9223372036854775807 < m * 10 + d
    · have hcond : (Int.ofNat ((9223372036854775807 - d) / 10) < Int.ofNat m) = True := eq_true (by show ((_ : Nat) : Int) < ((m : Nat) : Int); omega)
      simp only [go_seq, go_region, go_move, go_assign, go_len, go_binOp, go_block, go_scope, go_label, go_skip, go_exit, go_ret, go_ops_nil, go_load, go_fieldAddr, go_unOp, go_pick, go_indexAddr, go_slice, go_append, go_alloc, go_box, go_store, go_buildSlice, go_index, go_field, go_extract, go_build, go_nilCheck, go_lookup, go_mapUpdate, go_b, go_nil, goE_nil, goE_nm, goE_ex_c, goE_ret_c, goE_ex_b, goE_ret_b, go_guard, go_lookup, go_mapUpdate, go_cond, goB_tt, goB_ff, goG_tt, goG_ff, goO_some, goV_ok, goN_some, goV_okR, opnd_tmp, opnd_int, opnd_bool, opnd_nils, opnd_nilp, opnd_str, A.get_putP, A.get_baseP, L.get_consP, L.get_setP, L.get_nilP, tbit_eqP, kept_true, kept_false, A.keep_put, A.keep_base, A.flush_put, A.flush_base, putA_some, putA_none, argsA_cons, argsA_nil, toC_vc, toC_c, toW_vc, toW_w, toI_vc, toI_c, toB_vc, toB_c, toP_vc, toP_c, opC_tmp, opW_tmp, opI_tmp, opP_tmp, opC_int, opW_int, opI_int, opW_bool, opC_bool, opW_nils, opW_nilp, opC_nils, opW_str, rBin_eq, rUn_eq, rPick_eq, rLen_eq, rIndexAddr_eq, rFieldAddr_eq, rLoad_eq, aAppend_eq, aApp_eq, aStore_eq, retU_some, retCS_ok, retW_some, retC_some, b_lss, b_leq, b_gtr, b_geq, b_eql, b_neq, b_add, b_sub, b_mul, b_seql, b_sneq, u_not, goR_nm, goR_ret, resOf_nil, resOf_cons, resOne_tmp, tupOf_one, guardOk_eq, boolIs_t, boolIs_f, boolIs_t', boolIs_f', boolIs_skip, nBox_eq, rExtract_eq, resOne_cell, tupOf_two, cells_c, cells_agg, true_implies, false_implies, and_true, true_and, Bool.not_false, Bool.not_true, Bool.true_eq_false, Bool.false_eq_true, decide_eq_true_eq, decide_eq_false_iff_not, Bool.not_eq_true', Bool.not_eq_false', decide_true, decide_false, Nat.reduceShiftRight, Nat.reduceMod, Nat.reduceEqDiff, Nat.reduceAdd, ↓reduceIte, reduceCtorEq, List.getElem?_cons_zero, List.getElem?_cons_succ, g0, k0, g4, k4, g5, k5, len_str, hlt', rIndex_eq, hix, rConvert_eq, go_convert, isNew2, hw8, hcv, hsub, hbq, hquo, hcond, hres]
      have hn : refB 9223372036854775807 0 l = none := by
        rw [← hre, hdr]
        unfold refB
        rw [hdd, if_pos hov]
      rw [hn] at hK
      exact hK _
    · have hcond : (Int.ofNat ((9223372036854775807 - d) / 10) < Int.ofNat m) = False := eq_false (by show ¬ ((_ : Nat) : Int) < ((m : Nat) : Int); omega)
      have hm1 : wrapK .i64 (10 * Int.ofNat m) = Int.ofNat (10 * m) := by
        rw [show (10 : Int) * Int.ofNat m = Int.ofNat (10 * m) from rfl]
        exact wrap_nat (by omega)
      have hm2 : wrapK .i64 (Int.ofNat (10 * m) + Int.ofNat d) = Int.ofNat (m * 10 + d) := by
        rw [show Int.ofNat (10 * m) + Int.ofNat d = Int.ofNat (m * 10 + d) by show ((10 * m : Nat) : Int) + ((d : Nat) : Int) = ((m * 10 + d : Nat) : Int); omega]
        exact wrap_nat (by omega)
      simp only [go_seq, go_region, go_move, go_assign, go_len, go_binOp, go_block, go_scope, go_label, go_skip, go_exit, go_ret, go_ops_nil, go_load, go_fieldAddr, go_unOp, go_pick, go_indexAddr, go_slice, go_append, go_alloc, go_box, go_store, go_buildSlice, go_index, go_field, go_extract, go_build, go_nilCheck, go_lookup, go_mapUpdate, go_b, go_nil, goE_nil, goE_nm, goE_ex_c, goE_ret_c, goE_ex_b, goE_ret_b, go_guard, go_lookup, go_mapUpdate, go_cond, goB_tt, goB_ff, goG_tt, goG_ff, goO_some, goV_ok, goN_some, goV_okR, opnd_tmp, opnd_int, opnd_bool, opnd_nils, opnd_nilp, opnd_str, A.get_putP, A.get_baseP, L.get_consP, L.get_setP, L.get_nilP, tbit_eqP, kept_true, kept_false, A.keep_put, A.keep_base, A.flush_put, A.flush_base, putA_some, putA_none, argsA_cons, argsA_nil, toC_vc, toC_c, toW_vc, toW_w, toI_vc, toI_c, toB_vc, toB_c, toP_vc, toP_c, opC_tmp, opW_tmp, opI_tmp, opP_tmp, opC_int, opW_int, opI_int, opW_bool, opC_bool, opW_nils, opW_nilp, opC_nils, opW_str, rBin_eq, rUn_eq, rPick_eq, rLen_eq, rIndexAddr_eq, rFieldAddr_eq, rLoad_eq, aAppend_eq, aApp_eq, aStore_eq, retU_some, retCS_ok, retW_some, retC_some, b_lss, b_leq, b_gtr, b_geq, b_eql, b_neq, b_add, b_sub, b_mul, b_seql, b_sneq, u_not, goR_nm, goR_ret, resOf_nil, resOf_cons, resOne_tmp, tupOf_one, guardOk_eq, boolIs_t, boolIs_f, boolIs_t', boolIs_f', boolIs_skip, nBox_eq, rExtract_eq, resOne_cell, tupOf_two, cells_c, cells_agg, true_implies, false_implies, and_true, true_and, Bool.not_false, Bool.not_true, Bool.true_eq_false, Bool.false_eq_true, decide_eq_true_eq, decide_eq_false_iff_not, Bool.not_eq_true', Bool.not_eq_false', decide_true, decide_false, Nat.reduceShiftRight, Nat.reduceMod, Nat.reduceEqDiff, Nat.reduceAdd, ↓reduceIte, reduceCtorEq, List.getElem?_cons_zero, List.getElem?_cons_succ, g0, k0, g4, k4, g5, k5, len_str, hlt', rIndex_eq, hix, rConvert_eq, go_convert, isNew2, hw8, hcv, hsub, hbq, hquo, hcond, hm1, hm2, hsu]
      refine ⟨_, ?_, i + 1, m * 10 + d, rfl, hlt, by omega, ⟨?_, ?_⟩, ⟨?_, ?_⟩, ⟨?_, ?_⟩, ?_⟩
      case refine_8 =>
        rw [← hre, hdr]
        conv => rhs; unfold refB
        rw [hdd, if_neg hov]
      all_goals first | (simp only [opnd_tmp, opnd_int, opnd_bool, opnd_nils, opnd_nilp, opnd_str, A.get_putP, A.get_baseP, L.get_consP, L.get_setP, L.get_nilP, tbit_eqP, kept_true, kept_false, A.keep_put, A.keep_base, A.flush_put, A.flush_base, putA_some, putA_none, argsA_cons, argsA_nil, toC_vc, toC_c, toW_vc, toW_w, toI_vc, toI_c, toB_vc, toB_c, toP_vc, toP_c, opC_tmp, opW_tmp, opI_tmp, opP_tmp, opC_int, opW_int, opI_int, opW_bool, opC_bool, opW_nils, opW_nilp, opC_nils, opW_str, cells_c, cells_agg, Bool.not_false, Bool.not_true, Bool.true_eq_false, Bool.false_eq_true, decide_eq_true_eq, decide_eq_false_iff_not, Bool.not_eq_true', Bool.not_eq_false', decide_true, decide_false, Nat.reduceShiftRight, Nat.reduceMod, Nat.reduceEqDiff, Nat.reduceAdd, ↓reduceIte, reduceCtorEq, List.getElem?_cons_zero, List.getElem?_cons_succ, g0, k0, g4, k4]; done) | omega
  · have hlt' : (Int.ofNat i < Int.ofNat l.length) = False := by simpa using fun h => hlt (Int.ofNat_lt.1 h)
    simp only [go_seq, go_region, go_move, go_assign, go_len, go_binOp, go_block, go_scope, go_label, go_skip, go_exit, go_ret, go_ops_nil, go_load, go_fieldAddr, go_unOp, go_pick, go_indexAddr, go_slice, go_append, go_alloc, go_box, go_store, go_buildSlice, go_index, go_field, go_extract, go_build, go_nilCheck, go_lookup, go_mapUpdate, go_b, go_nil, goE_nil, goE_nm, goE_ex_c, goE_ret_c, goE_ex_b, goE_ret_b, go_guard, go_lookup, go_mapUpdate, go_cond, goB_tt, goB_ff, goG_tt, goG_ff, goO_some, goV_ok, goN_some, goV_okR, opnd_tmp, opnd_int, opnd_bool, opnd_nils, opnd_nilp, opnd_str, A.get_putP, A.get_baseP, L.get_consP, L.get_setP, L.get_nilP, tbit_eqP, kept_true, kept_false, A.keep_put, A.keep_base, A.flush_put, A.flush_base, putA_some, putA_none, argsA_cons, argsA_nil, toC_vc, toC_c, toW_vc, toW_w, toI_vc, toI_c, toB_vc, toB_c, toP_vc, toP_c, opC_tmp, opW_tmp, opI_tmp, opP_tmp, opC_int, opW_int, opI_int, opW_bool, opC_bool, opW_nils, opW_nilp, opC_nils, opW_str, rBin_eq, rUn_eq, rPick_eq, rLen_eq, rIndexAddr_eq, rFieldAddr_eq, rLoad_eq, aAppend_eq, aApp_eq, aStore_eq, retU_some, retCS_ok, retW_some, retC_some, b_lss, b_leq, b_gtr, b_geq, b_eql, b_neq, b_add, b_sub, b_mul, b_seql, b_sneq, u_not, goR_nm, goR_ret, resOf_nil, resOf_cons, resOne_tmp, tupOf_one, guardOk_eq, boolIs_t, boolIs_f, boolIs_t', boolIs_f', boolIs_skip, nBox_eq, rExtract_eq, resOne_cell, tupOf_two, cells_c, cells_agg, true_implies, false_implies, and_true, true_and, Bool.not_false, Bool.not_true, Bool.true_eq_false, Bool.false_eq_true, decide_eq_true_eq, decide_eq_false_iff_not, Bool.not_eq_true', Bool.not_eq_false', decide_true, decide_false, Nat.reduceShiftRight, Nat.reduceMod, Nat.reduceEqDiff, Nat.reduceAdd, ↓reduceIte, reduceCtorEq, List.getElem?_cons_zero, List.getElem?_cons_succ, g0, k0, g4, k4, g5, k5, len_str, hlt', hres]
    have hn : refB 9223372036854775807 0 l = some m := by
      rw [← hre, List.drop_of_length_le (by omega)]; rfl
    rw [hn] at hK
    exact hK _
theorem turned11 (X : T Ext) (hX : (En X).ext.get 11 = none) (l : List UInt8) (hd : l.all dig = true) (hl : l.length ≤ 1000) (s : St) (K : V → St → Prop) (hK : ∀ s', K (resN ((refB 9223372036854775808 0 l).map (fun u : Nat => -(u : Int)))) s') :
    goC (En X) 11 [.c (.str (Str.ofL l))] s K := by
  refine goC_body hX (kp11 X) (fn11 X) rfl (by kernel_rfl) ?_
  simp only [go_seq, go_region, go_move, go_assign, go_len, go_binOp, go_block, go_scope, go_label, go_skip, go_exit, go_ret, go_ops_nil, go_load, go_fieldAddr, go_unOp, go_pick, go_indexAddr, go_slice, go_append, go_alloc, go_box, go_store, go_buildSlice, go_index, go_field, go_extract, go_build, go_nilCheck, go_lookup, go_mapUpdate, go_b, go_nil, goE_nil, goE_nm, goE_ex_c, goE_ret_c, goE_ex_b, goE_ret_b, go_guard, go_lookup, go_mapUpdate, go_cond, goB_tt, goB_ff, goG_tt, goG_ff, goO_some, goV_ok, goN_some, goV_okR, opnd_tmp, opnd_int, opnd_bool, opnd_nils, opnd_nilp, opnd_str, A.get_putP, A.get_baseP, L.get_consP, L.get_setP, L.get_nilP, tbit_eqP, kept_true, kept_false, A.keep_put, A.keep_base, A.flush_put, A.flush_base, putA_some, putA_none, argsA_cons, argsA_nil, toC_vc, toC_c, toW_vc, toW_w, toI_vc, toI_c, toB_vc, toB_c, toP_vc, toP_c, opC_tmp, opW_tmp, opI_tmp, opP_tmp, opC_int, opW_int, opI_int, opW_bool, opC_bool, opW_nils, opW_nilp, opC_nils, opW_str, rBin_eq, rUn_eq, rPick_eq, rLen_eq, rIndexAddr_eq, rFieldAddr_eq, rLoad_eq, aAppend_eq, aApp_eq, aStore_eq, retU_some, retCS_ok, retW_some, retC_some, b_lss, b_leq, b_gtr, b_geq, b_eql, b_neq, b_add, b_sub, b_mul, b_seql, b_sneq, u_not, goR_nm, goR_ret, resOf_nil, resOf_cons, resOne_tmp, tupOf_one, guardOk_eq, boolIs_t, boolIs_f, boolIs_t', boolIs_f', boolIs_skip, nBox_eq, rExtract_eq, resOne_cell, tupOf_two, cells_c, cells_agg, true_implies, false_implies, and_true, true_and, Bool.not_false, Bool.not_true, Bool.true_eq_false, Bool.false_eq_true, decide_eq_true_eq, decide_eq_false_iff_not, Bool.not_eq_true', Bool.not_eq_false', decide_true, decide_false, Nat.reduceShiftRight, Nat.reduceMod, Nat.reduceEqDiff, Nat.reduceAdd, ↓reduceIte, reduceCtorEq, List.getElem?_cons_zero, List.getElem?_cons_succ, len_str]
  have hres : Tryd.f11.results.toList = [.tmp 2, .tmp 3] := rfl
  refine go_loop (goL_inv (fun n a' s' => ∃ i m, n = l.length - i ∧ i ≤ l.length ∧ m ≤ 9223372036854775808 ∧ Has a' 0 (vc (.str (Str.ofL l))) ∧ Has a' 4 (vc (.int .i64 (-((m : Nat) : Int)))) ∧ Has a' 5 (vc (.int .i64 (Int.ofNat i))) ∧ refB 9223372036854775808 m (l.drop i) = refB 9223372036854775808 0 l) (n := l.length)
    ⟨0, 0, rfl, Nat.zero_le _, by omega, ⟨rfl, rfl⟩, ⟨rfl, rfl⟩, ⟨rfl, rfl⟩, rfl⟩ ?_)
  rintro n a' s' ⟨i, m, rfl, hi, hm, ⟨g0, k0⟩, ⟨g4, k4⟩, ⟨g5, k5⟩, hre⟩
  by_cases hlt : i < l.length
  · obtain ⟨c, hc⟩ : ∃ c, l[i]? = some c := ⟨_, List.getElem?_eq_getElem hlt⟩
    have hdc := (dig_iff c).1 (List.all_eq_true.1 hd c (List.mem_of_getElem? hc))
    have hix := index_str X l hc
    have hdr : l.drop i = c :: l.drop (i + 1) := by
      rw [List.drop_eq_getElem_cons hlt]
      congr 1
      have := List.getElem?_eq_getElem hlt
      rw [hc] at this; exact (Option.some.inj this).symm
    have hlt' : (Int.ofNat i < Int.ofNat l.length) = True := by simpa using Int.ofNat_lt.2 hlt
    have hsu := nat_succ (show i < 9223372036854775807 by omega)
    have hw8 := w8 hdc.1
    have hcv : ∀ look, Ev.convert (En X) 5 2 (.int .u8 (Int.ofNat (c.toNat - 48))) look = some (.int .i64 (Int.ofNat (c.toNat - 48))) := fun look => cv52 X _ look (by omega)
    generalize hdd : c.toNat - 48 = d at *
    have hsub : wrapK .i64 (-9223372036854775808 + Int.ofNat d) = -((9223372036854775808 - d : Nat) : Int) := by
      rw [show (-9223372036854775808 : Int) + Int.ofNat d = -((9223372036854775808 - d : Nat) : Int) by show (-9223372036854775808 : Int) + ((d : Nat) : Int) = _; omega]
      exact w64 (by omega) (by omega)
    have hquo : wrapK .i64 ((-((9223372036854775808 - d : Nat) : Int)).tdiv 10) = -(((9223372036854775808 - d) / 10 : Nat) : Int) := by
      rw [show (-((9223372036854775808 - d : Nat) : Int)).tdiv 10 = -(((9223372036854775808 - d) / 10 : Nat) : Int) by rw [Int.neg_tdiv]; rfl]
      exact w64 (by omega) (by omega)
    have hbq := fun ox oy => b_quo (En X) 2 ox oy (-((9223372036854775808 - d : Nat) : Int)) 10 (by decide)
    by_cases hov : 9223372036854775808 < m * 10 + d
    · have hcond : (-((m : Nat) : Int) < -(((9223372036854775808 - d) / 10 : Nat) : Int)) = True := eq_true (by omega)
      simp only [go_seq, go_region, go_move, go_assign, go_len, go_binOp, go_block, go_scope, go_label, go_skip, go_exit, go_ret, go_ops_nil, go_load, go_fieldAddr, go_unOp, go_pick, go_indexAddr, go_slice, go_append, go_alloc, go_box, go_store, go_buildSlice, go_index, go_field, go_extract, go_build, go_nilCheck, go_lookup, go_mapUpdate, go_b, go_nil, goE_nil, goE_nm, goE_ex_c, goE_ret_c, goE_ex_b, goE_ret_b, go_guard, go_lookup, go_mapUpdate, go_cond, goB_tt, goB_ff, goG_tt, goG_ff, goO_some, goV_ok, goN_some, goV_okR, opnd_tmp, opnd_int, opnd_bool, opnd_nils, opnd_nilp, opnd_str, A.get_putP, A.get_baseP, L.get_consP, L.get_setP, L.get_nilP, tbit_eqP, kept_true, kept_false, A.keep_put, A.keep_base, A.flush_put, A.flush_base, putA_some, putA_none, argsA_cons, argsA_nil, toC_vc, toC_c, toW_vc, toW_w, toI_vc, toI_c, toB_vc, toB_c, toP_vc, toP_c, opC_tmp, opW_tmp, opI_tmp, opP_tmp, opC_int, opW_int, opI_int, opW_bool, opC_bool, opW_nils, opW_nilp, opC_nils, opW_str, rBin_eq, rUn_eq, rPick_eq, rLen_eq, rIndexAddr_eq, rFieldAddr_eq, rLoad_eq, aAppend_eq, aApp_eq, aStore_eq, retU_some, retCS_ok, retW_some, retC_some, b_lss, b_leq, b_gtr, b_geq, b_eql, b_neq, b_add, b_sub, b_mul, b_seql, b_sneq, u_not, goR_nm, goR_ret, resOf_nil, resOf_cons, resOne_tmp, tupOf_one, guardOk_eq, boolIs_t, boolIs_f, boolIs_t', boolIs_f', boolIs_skip, nBox_eq, rExtract_eq, resOne_cell, tupOf_two, cells_c, cells_agg, true_implies, false_implies, and_true, true_and, Bool.not_false, Bool.not_true, Bool.true_eq_false, Bool.false_eq_true, decide_eq_true_eq, decide_eq_false_iff_not, Bool.not_eq_true', Bool.not_eq_false', decide_true, decide_false, Nat.reduceShiftRight, Nat.reduceMod, Nat.reduceEqDiff, Nat.reduceAdd, ↓reduceIte, reduceCtorEq, List.getElem?_cons_zero, List.getElem?_cons_succ, g0, k0, g4, k4, g5, k5, len_str, hlt', rIndex_eq, hix, rConvert_eq, go_convert, isNew2, hw8, hcv, hsub, hbq, hquo, hcond, hres]
      have hn : refB 9223372036854775808 0 l = none := by
        rw [← hre, hdr]
        unfold refB
        rw [hdd, if_pos hov]
      rw [hn] at hK
      exact hK _
    · have hcond : (-((m : Nat) : Int) < -(((9223372036854775808 - d) / 10 : Nat) : Int)) = False := eq_false (by omega)
      have hm1 : wrapK .i64 (10 * -((m : Nat) : Int)) = -((10 * m : Nat) : Int) := by
        rw [show (10 : Int) * -((m : Nat) : Int) = -((10 * m : Nat) : Int) by omega]
        exact w64 (by omega) (by omega)
      have hm2 : wrapK .i64 (-((10 * m : Nat) : Int) - Int.ofNat d) = -((m * 10 + d : Nat) : Int) := by
        rw [show -((10 * m : Nat) : Int) - Int.ofNat d = -((m * 10 + d : Nat) : Int) by show -((10 * m : Nat) : Int) - ((d : Nat) : Int) = _; omega]
        exact w64 (by omega) (by omega)
      simp only [go_seq, go_region, go_move, go_assign, go_len, go_binOp, go_block, go_scope, go_label, go_skip, go_exit, go_ret, go_ops_nil, go_load, go_fieldAddr, go_unOp, go_pick, go_indexAddr, go_slice, go_append, go_alloc, go_box, go_store, go_buildSlice, go_index, go_field, go_extract, go_build, go_nilCheck, go_lookup, go_mapUpdate, go_b, go_nil, goE_nil, goE_nm, goE_ex_c, goE_ret_c, goE_ex_b, goE_ret_b, go_guard, go_lookup, go_mapUpdate, go_cond, goB_tt, goB_ff, goG_tt, goG_ff, goO_some, goV_ok, goN_some, goV_okR, opnd_tmp, opnd_int, opnd_bool, opnd_nils, opnd_nilp, opnd_str, A.get_putP, A.get_baseP, L.get_consP, L.get_setP, L.get_nilP, tbit_eqP, kept_true, kept_false, A.keep_put, A.keep_base, A.flush_put, A.flush_base, putA_some, putA_none, argsA_cons, argsA_nil, toC_vc, toC_c, toW_vc, toW_w, toI_vc, toI_c, toB_vc, toB_c, toP_vc, toP_c, opC_tmp, opW_tmp, opI_tmp, opP_tmp, opC_int, opW_int, opI_int, opW_bool, opC_bool, opW_nils, opW_nilp, opC_nils, opW_str, rBin_eq, rUn_eq, rPick_eq, rLen_eq, rIndexAddr_eq, rFieldAddr_eq, rLoad_eq, aAppend_eq, aApp_eq, aStore_eq, retU_some, retCS_ok, retW_some, retC_some, b_lss, b_leq, b_gtr, b_geq, b_eql, b_neq, b_add, b_sub, b_mul, b_seql, b_sneq, u_not, goR_nm, goR_ret, resOf_nil, resOf_cons, resOne_tmp, tupOf_one, guardOk_eq, boolIs_t, boolIs_f, boolIs_t', boolIs_f', boolIs_skip, nBox_eq, rExtract_eq, resOne_cell, tupOf_two, cells_c, cells_agg, true_implies, false_implies, and_true, true_and, Bool.not_false, Bool.not_true, Bool.true_eq_false, Bool.false_eq_true, decide_eq_true_eq, decide_eq_false_iff_not, Bool.not_eq_true', Bool.not_eq_false', decide_true, decide_false, Nat.reduceShiftRight, Nat.reduceMod, Nat.reduceEqDiff, Nat.reduceAdd, ↓reduceIte, reduceCtorEq, List.getElem?_cons_zero, List.getElem?_cons_succ, g0, k0, g4, k4, g5, k5, len_str, hlt', rIndex_eq, hix, rConvert_eq, go_convert, isNew2, hw8, hcv, hsub, hbq, hquo, hcond, hm1, hm2, hsu]
      refine ⟨_, ?_, i + 1, m * 10 + d, rfl, hlt, by omega, ⟨?_, ?_⟩, ⟨?_, ?_⟩, ⟨?_, ?_⟩, ?_⟩
      case refine_8 =>
        rw [← hre, hdr]
        conv => rhs; unfold refB
        rw [hdd, if_neg hov]
      all_goals first | (simp only [opnd_tmp, opnd_int, opnd_bool, opnd_nils, opnd_nilp, opnd_str, A.get_putP, A.get_baseP, L.get_consP, L.get_setP, L.get_nilP, tbit_eqP, kept_true, kept_false, A.keep_put, A.keep_base, A.flush_put, A.flush_base, putA_some, putA_none, argsA_cons, argsA_nil, toC_vc, toC_c, toW_vc, toW_w, toI_vc, toI_c, toB_vc, toB_c, toP_vc, toP_c, opC_tmp, opW_tmp, opI_tmp, opP_tmp, opC_int, opW_int, opI_int, opW_bool, opC_bool, opW_nils, opW_nilp, opC_nils, opW_str, cells_c, cells_agg, Bool.not_false, Bool.not_true, Bool.true_eq_false, Bool.false_eq_true, decide_eq_true_eq, decide_eq_false_iff_not, Bool.not_eq_true', Bool.not_eq_false', decide_true, decide_false, Nat.reduceShiftRight, Nat.reduceMod, Nat.reduceEqDiff, Nat.reduceAdd, ↓reduceIte, reduceCtorEq, List.getElem?_cons_zero, List.getElem?_cons_succ, g0, k0, g4, k4]; done) | omega
  · have hlt' : (Int.ofNat i < Int.ofNat l.length) = False := by simpa using fun h => hlt (Int.ofNat_lt.1 h)
    simp only [go_seq, go_region, go_move, go_assign, go_len, go_binOp, go_block, go_scope, go_label, go_skip, go_exit, go_ret, go_ops_nil, go_load, go_fieldAddr, go_unOp, go_pick, go_indexAddr, go_slice, go_append, go_alloc, go_box, go_store, go_buildSlice, go_index, go_field, go_extract, go_build, go_nilCheck, go_lookup, go_mapUpdate, go_b, go_nil, goE_nil, goE_nm, goE_ex_c, goE_ret_c, goE_ex_b, goE_ret_b, go_guard, go_lookup, go_mapUpdate, go_cond, goB_tt, goB_ff, goG_tt, goG_ff, goO_some, goV_ok, goN_some, goV_okR, opnd_tmp, opnd_int, opnd_bool, opnd_nils, opnd_nilp, opnd_str, A.get_putP, A.get_baseP, L.get_consP, L.get_setP, L.get_nilP, tbit_eqP, kept_true, kept_false, A.keep_put, A.keep_base, A.flush_put, A.flush_base, putA_some, putA_none, argsA_cons, argsA_nil, toC_vc, toC_c, toW_vc, toW_w, toI_vc, toI_c, toB_vc, toB_c, toP_vc, toP_c, opC_tmp, opW_tmp, opI_tmp, opP_tmp, opC_int, opW_int, opI_int, opW_bool, opC_bool, opW_nils, opW_nilp, opC_nils, opW_str, rBin_eq, rUn_eq, rPick_eq, rLen_eq, rIndexAddr_eq, rFieldAddr_eq, rLoad_eq, aAppend_eq, aApp_eq, aStore_eq, retU_some, retCS_ok, retW_some, retC_some, b_lss, b_leq, b_gtr, b_geq, b_eql, b_neq, b_add, b_sub, b_mul, b_seql, b_sneq, u_not, goR_nm, goR_ret, resOf_nil, resOf_cons, resOne_tmp, tupOf_one, guardOk_eq, boolIs_t, boolIs_f, boolIs_t', boolIs_f', boolIs_skip, nBox_eq, rExtract_eq, resOne_cell, tupOf_two, cells_c, cells_agg, true_implies, false_implies, and_true, true_and, Bool.not_false, Bool.not_true, Bool.true_eq_false, Bool.false_eq_true, decide_eq_true_eq, decide_eq_false_iff_not, Bool.not_eq_true', Bool.not_eq_false', decide_true, decide_false, Nat.reduceShiftRight, Nat.reduceMod, Nat.reduceEqDiff, Nat.reduceAdd, ↓reduceIte, reduceCtorEq, List.getElem?_cons_zero, List.getElem?_cons_succ, g0, k0, g4, k4, g5, k5, len_str, hlt', hres]
    have hn : refB 9223372036854775808 0 l = some m := by
      rw [← hre, List.drop_of_length_le (by omega)]; rfl
    rw [hn] at hK
    exact hK _
end Nu
