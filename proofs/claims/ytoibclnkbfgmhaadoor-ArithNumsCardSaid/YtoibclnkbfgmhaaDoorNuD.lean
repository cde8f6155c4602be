import Derived.Test.YtoibclnkbfgmhaaDoorNuC
namespace Nu
open Go Go.Proofs Ev Go.Lib
set_option linter.unusedVariables false
set_option linter.unusedSimpArgs false
set_option maxRecDepth 100000
theorem nBuildSlice_eq (E : Env) (a : A) (t n : Nat) (ps : List (Nat × Operand)) (id : Nat) : nBuildSlice E a t n ps id = match partsOf a ps with
  | some l => buildSlice E t n l id
  | none => none := rfl
theorem partsOf_nil (a : A) : partsOf a [] = some [] := rfl
theorem partsOf_cons (a : A) (i : Nat) (x : Operand) (l : List (Nat × Operand)) : partsOf a ((i, x) :: l) = match opW a x with
  | none => none
  | some w => match partsOf a l with
    | none => none
    | some r => some ((i, w) :: r) := rfl
theorem b_remU (E : Env) (t : Nat) (ox oy : Operand) (m n : Nat) (hn : 1 ≤ n) : Ev.binOp E .rem t ox oy (.c (.int .u64 (Int.ofNat m))) (.c (.int .u64 (Int.ofNat n))) = some (vc (.int .u64 (Int.ofNat (m % n)))) := by
  have hk : kEq .u64 .u64 = true := rfl
  have h0 : iEq (Int.ofNat n) 0 = false := by rw [iEq_eq]; simp; omega
  have ht : (Int.ofNat m).tmod (Int.ofNat n) = Int.ofNat (m % n) := rfl
  simp only [Ev.binOp, isShift, hk, intOp, h0, ht, intC_eq, retC_some]
theorem wu {n : Nat} (h : n ≤ 18446744073709551615) : wrapK .u64 (Int.ofNat n) = Int.ofNat n := by
  rw [wrapK_eq]
  refine wrap_in _ _ ?_ ?_
  · show (0 : Int) ≤ ((n : Nat) : Int); omega
  · show ((n : Nat) : Int) ≤ 18446744073709551615; omega
theorem b_quoU (E : Env) (t : Nat) (ox oy : Operand) (m n : Nat) (hn : 1 ≤ n) (hm : m ≤ 18446744073709551615) : Ev.binOp E .quo t ox oy (.c (.int .u64 (Int.ofNat m))) (.c (.int .u64 (Int.ofNat n))) = some (vc (.int .u64 (Int.ofNat (m / n)))) := by
  have hk : kEq .u64 .u64 = true := rfl
  have h0 : iEq (Int.ofNat n) 0 = false := by rw [iEq_eq]; simp; omega
  have ht : (Int.ofNat m).tdiv (Int.ofNat n) = Int.ofNat (m / n) := rfl
  have hw := wu (n := m / n) (Nat.le_trans (Nat.div_le_self _ _) hm)
  simp only [Ev.binOp, isShift, hk, intOp, h0, ht, hw, intC_eq, retC_some]
theorem cv335 (X : T Ext) (n : Nat) (look : Look) (h : n < 256) : Ev.convert (En X) 33 5 (.int .u64 (Int.ofNat n)) look = some (.int .u8 (Int.ofNat n)) := by
  unfold Ev.convert
  rw [uint33]
  simp only []
  rw [uint5]
  show intC .u8 (wrapK .u8 (Int.ofNat n)) = _
  rw [intC_eq]
  congr 2
  rw [wrapK_eq]
  refine wrap_in _ _ ?_ ?_
  · show (0 : Int) ≤ ((n : Nat) : Int); omega
  · show ((n : Nat) : Int) ≤ 255; omega
theorem cv429 (X : T Ext) (look : Look) (b : Nat) (c : UInt8) (h : readL look b 0 1 = some [.int .u8 (Int.ofNat c.toNat)]) : Ev.convert (En X) 42 9 (.sl b 0 1 (some 1) 1) look = some (.str (Str.ofL [c])) := by
  unfold Ev.convert
  rw [us42]
  simp only []
  rw [ustr9]
  show (match readL look b 0 1 with
    | none => none
    | some l => strOfSl (En X) (.slice 5) l) = _
  rw [h]
  show strOfSl (En X) (.slice 5) [.int .u8 (Int.ofNat c.toNat)] = _
  unfold strOfSl
  simp only []
  rw [uint5]
  have hc := c.toNat_lt
  have hb : Nat.ble (Nat.succ c.toNat) 256 = true := nble_true (by omega)
  have hp := Str.push_ofL [] c
  show (match (match Nat.ble (Nat.succ c.toNat) 256 with
    | true => some (Str.nil.push c.toNat)
    | false => none) with
    | some z => some (C.str z)
    | none => none) = _
  rw [hb]
  exact congrArg (fun z => some (C.str z)) hp
theorem readNew (s : St) (l : List C) : readL (s.new (.row (mkRow l))).h.get s.nx 0 l.length = some l := by
  have h : (s.new (.row (mkRow l))).h.get s.nx = some (.row (mkRow l)) := by rw [St.new_h]; show (if s.nx = s.nx then _ else _) = _; rw [if_pos rfl]
  rw [readL_row h, mkRow_eq, readR_ofL, if_pos (by omega)]
  simp
theorem b_sadd (E : Env) (t : Nat) (ox oy : Operand) (l r : List UInt8) (h : l.length + r.length ≤ 9223372036854775807) : Ev.binOp E .add t ox oy (.c (.str (Str.ofL l))) (.c (.str (Str.ofL r))) = some (vc (.str (Str.ofL (l ++ r)))) := by
  have hl : Nat.ble (Nat.add (Str.ofL l).len (Str.ofL r).len) 9223372036854775807 = true := nble_true h
  simp only [Ev.binOp, strOp, hl, Str.app_ofL, retC_some]
theorem digits13 (X : T Ext) (hX : (En X).ext.get 13 = none) (n : Nat) : ∀ (s : St) (K : V → St → Prop), n ≤ 18446744073709551615 → (∀ s', K (.w (.c (.str (Str.ofL (digL n))))) s') →
    goC (En X) 13 [.c (.int .u64 (Int.ofNat n))] s K := by
  induction n using Nat.strongRecOn with
  | _ n ih =>
    intro s K hn hK
    refine goC_body hX (kp13 X) (fn13 X) rfl (by kernel_rfl) ?_
    have hres : Tryd.f13.results.toList = [.tmp 2] := rfl
    have hrem := fun ox oy => b_remU (En X) 33 ox oy n 10 (by omega)
    have hquo := fun ox oy => b_quoU (En X) 33 ox oy n 10 (by omega) hn
    have hadd : wrapK .u64 (48 + Int.ofNat (n % 10)) = Int.ofNat (48 + n % 10) := by
      rw [show (48 : Int) + Int.ofNat (n % 10) = Int.ofNat (48 + n % 10) from rfl]
      exact wu (by omega)
    have hcv := fun look => cv335 X (48 + n % 10) look (by omega)
    have hdt := digit_toNat n
    have hrd := readNew s [.int .u8 (Int.ofNat (UInt8.ofNat (48 + n % 10)).toNat)]
    have hcs := cv429 X _ s.nx (UInt8.ofNat (48 + n % 10)) hrd
    rw [hdt] at hcs
    have e10 : Int.ofNat 10 = 10 := rfl
    rw [e10] at hrem hquo
    by_cases h10 : 10 ≤ n
    · have hc : (10 ≤ Int.ofNat n) = True := eq_true (by show (10 : Int) ≤ ((n : Nat) : Int); omega)
      simp only [go_seq, go_region, go_move, go_assign, go_len, go_binOp, go_block, go_scope, go_label, go_skip, go_exit, go_ret, go_ops_nil, go_load, go_fieldAddr, go_unOp, go_pick, go_indexAddr, go_slice, go_append, go_alloc, go_box, go_store, go_buildSlice, go_index, go_field, go_extract, go_build, go_nilCheck, go_lookup, go_mapUpdate, go_b, go_nil, goE_nil, goE_nm, goE_ex_c, goE_ret_c, goE_ex_b, goE_ret_b, go_guard, go_lookup, go_mapUpdate, go_cond, goB_tt, goB_ff, goG_tt, goG_ff, goO_some, goV_ok, goN_some, goV_okR, opnd_tmp, opnd_int, opnd_bool, opnd_nils, opnd_nilp, opnd_str, A.get_putP, A.get_baseP, L.get_consP, L.get_setP, L.get_nilP, tbit_eqP, kept_true, kept_false, A.keep_put, A.keep_base, A.flush_put, A.flush_base, putA_some, putA_none, argsA_cons, argsA_nil, toC_vc, toC_c, toW_vc, toW_w, toI_vc, toI_c, toB_vc, toB_c, toP_vc, toP_c, opC_tmp, opW_tmp, opI_tmp, opP_tmp, opC_int, opW_int, opI_int, opW_bool, opC_bool, opW_nils, opW_nilp, opC_nils, opW_str, rBin_eq, rUn_eq, rPick_eq, rLen_eq, rIndexAddr_eq, rFieldAddr_eq, rLoad_eq, aAppend_eq, aApp_eq, aStore_eq, retU_some, retCS_ok, retW_some, retC_some, b_lss, b_leq, b_gtr, b_geq, b_eql, b_neq, b_add, b_sub, b_mul, b_seql, b_sneq, u_not, goR_nm, goR_ret, resOf_nil, resOf_cons, resOne_tmp, tupOf_one, guardOk_eq, boolIs_t, boolIs_f, boolIs_t', boolIs_f', boolIs_skip, nBox_eq, rExtract_eq, resOne_cell, tupOf_two, cells_c, cells_agg, true_implies, false_implies, and_true, true_and, Bool.not_false, Bool.not_true, Bool.true_eq_false, Bool.false_eq_true, decide_eq_true_eq, decide_eq_false_iff_not, Bool.not_eq_true', Bool.not_eq_false', decide_true, decide_false, Nat.reduceShiftRight, Nat.reduceMod, Nat.reduceEqDiff, Nat.reduceAdd, ↓reduceIte, reduceCtorEq, List.getElem?_cons_zero, List.getElem?_cons_succ, hrem, hadd, rConvert_eq, go_convert, isNew5, isNew9, hcv, nBuildSlice_eq, partsOf_nil, partsOf_cons, bS42_1, hcs, hc, hquo]
      refine go_call _ _ _ _ _ _ (ws := [.c (.int .u64 (Int.ofNat (n / 10)))]) rfl (by simp only [opnd_tmp, opnd_int, opnd_bool, opnd_nils, opnd_nilp, opnd_str, A.get_putP, A.get_baseP, L.get_consP, L.get_setP, L.get_nilP, tbit_eqP, kept_true, kept_false, A.keep_put, A.keep_base, A.flush_put, A.flush_base, putA_some, putA_none, argsA_cons, argsA_nil, toC_vc, toC_c, toW_vc, toW_w, toI_vc, toI_c, toB_vc, toB_c, toP_vc, toP_c, opC_tmp, opW_tmp, opI_tmp, opP_tmp, opC_int, opW_int, opI_int, opW_bool, opC_bool, opW_nils, opW_nilp, opC_nils, opW_str, cells_c, cells_agg, Bool.not_false, Bool.not_true, Bool.true_eq_false, Bool.false_eq_true, decide_eq_true_eq, decide_eq_false_iff_not, Bool.not_eq_true', Bool.not_eq_false', decide_true, decide_false, Nat.reduceShiftRight, Nat.reduceMod, Nat.reduceEqDiff, Nat.reduceAdd, ↓reduceIte, reduceCtorEq, List.getElem?_cons_zero, List.getElem?_cons_succ, argsOf_cons, argsOf_nil]) ?_
      refine ih (n / 10) (by omega) _ _ (by omega) fun s2 => ?_
      have hd : digL n = digL (n / 10) ++ [UInt8.ofNat (48 + n % 10)] := by
        conv => lhs; unfold digL
        rw [if_pos h10]
      have hlen := digL_len 19 (n / 10) (by omega)
      have hs := fun ox oy => b_sadd (En X) 9 ox oy (digL (n / 10)) [UInt8.ofNat (48 + n % 10)] (by simp; omega)
      rw [hd] at hK
      simp only [go_seq, go_region, go_move, go_assign, go_len, go_binOp, go_block, go_scope, go_label, go_skip, go_exit, go_ret, go_ops_nil, go_load, go_fieldAddr, go_unOp, go_pick, go_indexAddr, go_slice, go_append, go_alloc, go_box, go_store, go_buildSlice, go_index, go_field, go_extract, go_build, go_nilCheck, go_lookup, go_mapUpdate, go_b, go_nil, goE_nil, goE_nm, goE_ex_c, goE_ret_c, goE_ex_b, goE_ret_b, go_guard, go_lookup, go_mapUpdate, go_cond, goB_tt, goB_ff, goG_tt, goG_ff, goO_some, goV_ok, goN_some, goV_okR, opnd_tmp, opnd_int, opnd_bool, opnd_nils, opnd_nilp, opnd_str, A.get_putP, A.get_baseP, L.get_consP, L.get_setP, L.get_nilP, tbit_eqP, kept_true, kept_false, A.keep_put, A.keep_base, A.flush_put, A.flush_base, putA_some, putA_none, argsA_cons, argsA_nil, toC_vc, toC_c, toW_vc, toW_w, toI_vc, toI_c, toB_vc, toB_c, toP_vc, toP_c, opC_tmp, opW_tmp, opI_tmp, opP_tmp, opC_int, opW_int, opI_int, opW_bool, opC_bool, opW_nils, opW_nilp, opC_nils, opW_str, rBin_eq, rUn_eq, rPick_eq, rLen_eq, rIndexAddr_eq, rFieldAddr_eq, rLoad_eq, aAppend_eq, aApp_eq, aStore_eq, retU_some, retCS_ok, retW_some, retC_some, b_lss, b_leq, b_gtr, b_geq, b_eql, b_neq, b_add, b_sub, b_mul, b_seql, b_sneq, u_not, goR_nm, goR_ret, resOf_nil, resOf_cons, resOne_tmp, tupOf_one, guardOk_eq, boolIs_t, boolIs_f, boolIs_t', boolIs_f', boolIs_skip, nBox_eq, rExtract_eq, resOne_cell, tupOf_two, cells_c, cells_agg, true_implies, false_implies, and_true, true_and, Bool.not_false, Bool.not_true, Bool.true_eq_false, Bool.false_eq_true, decide_eq_true_eq, decide_eq_false_iff_not, Bool.not_eq_true', Bool.not_eq_false', decide_true, decide_false, Nat.reduceShiftRight, Nat.reduceMod, Nat.reduceEqDiff, Nat.reduceAdd, ↓reduceIte, reduceCtorEq, List.getElem?_cons_zero, List.getElem?_cons_succ, hs, hres]
      exact hK _
    · have hc : (10 ≤ Int.ofNat n) = False := eq_false (by show ¬ (10 : Int) ≤ ((n : Nat) : Int); omega)
      simp only [go_seq, go_region, go_move, go_assign, go_len, go_binOp, go_block, go_scope, go_label, go_skip, go_exit, go_ret, go_ops_nil, go_load, go_fieldAddr, go_unOp, go_pick, go_indexAddr, go_slice, go_append, go_alloc, go_box, go_store, go_buildSlice, go_index, go_field, go_extract, go_build, go_nilCheck, go_lookup, go_mapUpdate, go_b, go_nil, goE_nil, goE_nm, goE_ex_c, goE_ret_c, goE_ex_b, goE_ret_b, go_guard, go_lookup, go_mapUpdate, go_cond, goB_tt, goB_ff, goG_tt, goG_ff, goO_some, goV_ok, goN_some, goV_okR, opnd_tmp, opnd_int, opnd_bool, opnd_nils, opnd_nilp, opnd_str, A.get_putP, A.get_baseP, L.get_consP, L.get_setP, L.get_nilP, tbit_eqP, kept_true, kept_false, A.keep_put, A.keep_base, A.flush_put, A.flush_base, putA_some, putA_none, argsA_cons, argsA_nil, toC_vc, toC_c, toW_vc, toW_w, toI_vc, toI_c, toB_vc, toB_c, toP_vc, toP_c, opC_tmp, opW_tmp, opI_tmp, opP_tmp, opC_int, opW_int, opI_int, opW_bool, opC_bool, opW_nils, opW_nilp, opC_nils, opW_str, rBin_eq, rUn_eq, rPick_eq, rLen_eq, rIndexAddr_eq, rFieldAddr_eq, rLoad_eq, aAppend_eq, aApp_eq, aStore_eq, retU_some, retCS_ok, retW_some, retC_some, b_lss, b_leq, b_gtr, b_geq, b_eql, b_neq, b_add, b_sub, b_mul, b_seql, b_sneq, u_not, goR_nm, goR_ret, resOf_nil, resOf_cons, resOne_tmp, tupOf_one, guardOk_eq, boolIs_t, boolIs_f, boolIs_t', boolIs_f', boolIs_skip, nBox_eq, rExtract_eq, resOne_cell, tupOf_two, cells_c, cells_agg, true_implies, false_implies, and_true, true_and, Bool.not_false, Bool.not_true, Bool.true_eq_false, Bool.false_eq_true, decide_eq_true_eq, decide_eq_false_iff_not, Bool.not_eq_true', Bool.not_eq_false', decide_true, decide_false, Nat.reduceShiftRight, Nat.reduceMod, Nat.reduceEqDiff, Nat.reduceAdd, ↓reduceIte, reduceCtorEq, List.getElem?_cons_zero, List.getElem?_cons_succ, hrem, hadd, rConvert_eq, go_convert, isNew5, isNew9, hcv, nBuildSlice_eq, partsOf_nil, partsOf_cons, bS42_1, hcs, hc, hquo, hres]
      have hd : digL n = [UInt8.ofNat (48 + n % 10)] := by
        conv => lhs; unfold digL
        rw [if_neg h10]
      rw [hd] at hK
      exact hK _
end Nu
