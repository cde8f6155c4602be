import Derived.Test.YtkmffdoaahiopaaGreatDoorBnD
import Derived.Test.YtkmffdoaahiopaaGreatDoorBnE
import Derived.Test.YtkmffdoaahiopaaGreatDoorEwJ
namespace Bn
open Go Go.Proofs Ev Go.Lib Nu
set_option linter.unusedVariables false
set_option linter.unusedSimpArgs false
set_option linter.unnecessarySimpa false
set_option maxRecDepth 100000
def RStat (ps : List PW) (v : PV) : Prop := ∃ b : Bool, ps = [.c (.bool b)] ∧ v = .w (.c (.int .i64 (Int.ofNat (st b))))
noncomputable def e6 : Nat × Ext := (6, .fn (ofG RStat) [])
theorem c6 : Ok e6 := fn_of_go_g (exts := []) ok0 rfl [] rfl _ (by
  rintro ps pv ⟨b, rfl, rfl⟩
  exact status6 _ rfl b _ _ fun s' => ⟨[], rfl⟩)
theorem callR_st {X : T Ext} (h6 : (En X).ext.get 6 = some (.fn (ofG RStat) [])) (b : Bool) (s : St) : CallR (En X) 6 [.c (.bool b)] s (.w (.c (.int .i64 (Int.ofNat (st b))))) s :=
  callR_fn (ps := [.c (.bool b)]) (pv := .w (.c (.int .i64 (Int.ofNat (st b))))) h6 (ofG_eq ⟨b, rfl, rfl⟩ (by
    rintro v' ⟨b', h1, rfl⟩
    have : b = b' := by simpa using h1
    rw [this])) rfl
theorem tx_inj : ∀ {l r : List (List UInt8)}, tx l = tx r → l = r := by
  intro l
  induction l with
  | nil => intro r h; cases r with | nil => rfl | cons b r => simp [tx] at h
  | cons a l ih =>
    intro r h
    cases r with
    | nil => simp [tx] at h
    | cons b r =>
      have h : [D.str (Str.ofL a)] :: tx l = [D.str (Str.ofL b)] :: tx r := h
      simp only [List.cons.injEq, D.str.injEq, and_true] at h
      rw [ofL_inj h.1, ih h.2]
def RIdx (ps : List PW) (v : PV) : Prop := ∃ ls op, ps = [.c (.sl 1 (tx ls)), .c (.str (Str.ofL op))] ∧ ls.length ≤ 1000 ∧ v = .w (.c (.int .i64 (pos op ls)))
noncomputable def e14 : Nat × Ext := (14, .fn (ofG RIdx) [])
theorem c14 : Ok e14 := fn_of_go_g (exts := []) ok0 rfl [] rfl _ (by
  rintro ps pv ⟨ls, op, rfl, hl, rfl⟩
  exact index14 _ rfl ls hl op _ _ fun s' => ⟨[], rfl⟩)
theorem callR_idx {X : T Ext} (h14 : (En X).ext.get 14 = some (.fn (ofG RIdx) [])) (ls : List (List UInt8)) (hl : ls.length ≤ 1000) (op : List UInt8) (s : St) : CallR (En X) 14 [.c (.dat 1 (tx ls)), .c (.str (Str.ofL op))] s (.w (.c (.int .i64 (pos op ls)))) s :=
  callR_fn (ps := [.c (.sl 1 (tx ls)), .c (.str (Str.ofL op))]) (pv := .w (.c (.int .i64 (pos op ls)))) h14 (ofG_eq ⟨ls, op, rfl, hl, rfl⟩ (by
    rintro v' ⟨ls', op', h1, _, rfl⟩
    simp only [List.cons.injEq, PW.c.injEq, D.sl.injEq, D.str.injEq, true_and, and_true] at h1
    rw [tx_inj h1.1, ofL_inj h1.2])) rfl
theorem contains12 (X : T Ext) (hX : (En X).ext.get 12 = none) (h14 : (En X).ext.get 14 = some (.fn (ofG RIdx) [])) (ls : List (List UInt8)) (hl : ls.length ≤ 1000) (op : List UInt8) (s : St) (K : V → St → Prop) (hK : ∀ s', K (.w (.c (.bool (decide (op ∈ ls))))) s') :
    goC (En X) 12 [.c (.dat 1 (tx ls)), .c (.str (Str.ofL op))] s K := by
  refine goC_body hX (kp12 X) (fn12 X) rfl (by kernel_rfl) ?_
  have hres : Tryz.f12.results.toList = [.tmp 4] := rfl
  simp only [go_seq, go_region, go_move, go_assign, go_len, go_binOp, go_block, go_scope, go_label, go_skip, go_exit, go_ret, go_ops_nil, go_load, go_fieldAddr, go_unOp, go_pick, go_indexAddr, go_slice, go_append, go_alloc, go_box, go_store, go_buildSlice, go_index, go_field, go_extract, go_build, go_nilCheck, go_lookup, go_mapUpdate, go_b, go_nil, goE_nil, goE_nm, goE_ex_c, goE_ret_c, goE_ex_b, goE_ret_b, go_guard, go_lookup, go_mapUpdate, go_cond, goB_tt, goB_ff, goG_tt, goG_ff, goO_some, goV_ok, goN_some, goV_okR, opnd_tmp, opnd_int, opnd_bool, opnd_nils, opnd_nilp, opnd_str, A.get_putP, A.get_baseP, L.get_consP, L.get_setP, L.get_nilP, tbit_eqP, kept_true, kept_false, A.keep_put, A.keep_base, A.flush_put, A.flush_base, putA_some, putA_none, argsA_cons, argsA_nil, toC_vc, toC_c, toW_vc, toW_w, toI_vc, toI_c, toB_vc, toB_c, toP_vc, toP_c, opC_tmp, opW_tmp, opI_tmp, opP_tmp, opC_int, opW_int, opI_int, opW_bool, opC_bool, opW_nils, opW_nilp, opC_nils, opW_str, rBin_eq, rUn_eq, rPick_eq, rLen_eq, rIndexAddr_eq, rFieldAddr_eq, rLoad_eq, aAppend_eq, aApp_eq, aStore_eq, retU_some, retCS_ok, retW_some, retC_some, b_lss, b_leq, b_gtr, b_geq, b_eql, b_neq, b_add, b_sub, b_mul, b_seql, b_sneq, u_not, goR_nm, goR_ret, resOf_nil, resOf_cons, resOne_tmp, tupOf_one, guardOk_eq, boolIs_t, boolIs_f, boolIs_t', boolIs_f', boolIs_skip, nBox_eq, rExtract_eq, resOne_cell, tupOf_two, cells_c, cells_agg, true_implies, false_implies, and_true, true_and, Bool.not_false, Bool.not_true, Bool.true_eq_false, Bool.false_eq_true, decide_eq_true_eq, decide_eq_false_iff_not, Bool.not_eq_true', Bool.not_eq_false', decide_true, decide_false, Nat.reduceShiftRight, Nat.reduceMod, Nat.reduceEqDiff, Nat.reduceAdd, ↓reduceIte, reduceCtorEq, List.getElem?_cons_zero, List.getElem?_cons_succ]
  refine go_call _ _ _ _ _ _ (ws := [.c (.dat 1 (tx ls)), .c (.str (Str.ofL op))]) rfl (by simp only [opnd_tmp, opnd_int, opnd_bool, opnd_nils, opnd_nilp, opnd_str, A.get_putP, A.get_baseP, L.get_consP, L.get_setP, L.get_nilP, tbit_eqP, kept_true, kept_false, A.keep_put, A.keep_base, A.flush_put, A.flush_base, putA_some, putA_none, argsA_cons, argsA_nil, toC_vc, toC_c, toW_vc, toW_w, toI_vc, toI_c, toB_vc, toB_c, toP_vc, toP_c, opC_tmp, opW_tmp, opI_tmp, opP_tmp, opC_int, opW_int, opI_int, opW_bool, opC_bool, opW_nils, opW_nilp, opC_nils, opW_str, cells_c, cells_agg, Bool.not_false, Bool.not_true, Bool.true_eq_false, Bool.false_eq_true, decide_eq_true_eq, decide_eq_false_iff_not, Bool.not_eq_true', Bool.not_eq_false', decide_true, decide_false, Nat.reduceShiftRight, Nat.reduceMod, Nat.reduceEqDiff, Nat.reduceAdd, ↓reduceIte, reduceCtorEq, List.getElem?_cons_zero, List.getElem?_cons_succ, argsOf_cons, argsOf_nil]) ?_
  refine goC_of (callR_idx h14 ls hl op s) ?_
  have hd : decide (0 ≤ pos op ls) = decide (op ∈ ls) := by
    unfold pos
    by_cases h : op ∈ ls
    · rw [if_pos h]; simp [h]
    · rw [if_neg h]; simp [h]
  rw [← hd] at hK
  simp only [go_seq, go_region, go_move, go_assign, go_len, go_binOp, go_block, go_scope, go_label, go_skip, go_exit, go_ret, go_ops_nil, go_load, go_fieldAddr, go_unOp, go_pick, go_indexAddr, go_slice, go_append, go_alloc, go_box, go_store, go_buildSlice, go_index, go_field, go_extract, go_build, go_nilCheck, go_lookup, go_mapUpdate, go_b, go_nil, goE_nil, goE_nm, goE_ex_c, goE_ret_c, goE_ex_b, goE_ret_b, go_guard, go_lookup, go_mapUpdate, go_cond, goB_tt, goB_ff, goG_tt, goG_ff, goO_some, goV_ok, goN_some, goV_okR, opnd_tmp, opnd_int, opnd_bool, opnd_nils, opnd_nilp, opnd_str, A.get_putP, A.get_baseP, L.get_consP, L.get_setP, L.get_nilP, tbit_eqP, kept_true, kept_false, A.keep_put, A.keep_base, A.flush_put, A.flush_base, putA_some, putA_none, argsA_cons, argsA_nil, toC_vc, toC_c, toW_vc, toW_w, toI_vc, toI_c, toB_vc, toB_c, toP_vc, toP_c, opC_tmp, opW_tmp, opI_tmp, opP_tmp, opC_int, opW_int, opI_int, opW_bool, opC_bool, opW_nils, opW_nilp, opC_nils, opW_str, rBin_eq, rUn_eq, rPick_eq, rLen_eq, rIndexAddr_eq, rFieldAddr_eq, rLoad_eq, aAppend_eq, aApp_eq, aStore_eq, retU_some, retCS_ok, retW_some, retC_some, b_lss, b_leq, b_gtr, b_geq, b_eql, b_neq, b_add, b_sub, b_mul, b_seql, b_sneq, u_not, goR_nm, goR_ret, resOf_nil, resOf_cons, resOne_tmp, tupOf_one, guardOk_eq, boolIs_t, boolIs_f, boolIs_t', boolIs_f', boolIs_skip, nBox_eq, rExtract_eq, resOne_cell, tupOf_two, cells_c, cells_agg, true_implies, false_implies, and_true, true_and, Bool.not_false, Bool.not_true, Bool.true_eq_false, Bool.false_eq_true, decide_eq_true_eq, decide_eq_false_iff_not, Bool.not_eq_true', Bool.not_eq_false', decide_true, decide_false, Nat.reduceShiftRight, Nat.reduceMod, Nat.reduceEqDiff, Nat.reduceAdd, ↓reduceIte, reduceCtorEq, List.getElem?_cons_zero, List.getElem?_cons_succ, hres]
  exact hK _
def RCnt (ps : List PW) (v : PV) : Prop := ∃ ls op, ps = [.c (.sl 1 (tx ls)), .c (.str (Str.ofL op))] ∧ ls.length ≤ 1000 ∧ v = .w (.c (.bool (decide (op ∈ ls))))
noncomputable def e12 : Nat × Ext := (12, .fn (ofG RCnt) [])
theorem c12 : Ok e12 := fn_of_go_g (exts := [e14]) (ok1 c14 ok0) rfl [] rfl _ (by
  rintro ps pv ⟨ls, op, rfl, hl, rfl⟩
  exact contains12 _ rfl rfl ls hl op _ _ fun s' => ⟨[], rfl⟩)
theorem callR_cnt {X : T Ext} (h12 : (En X).ext.get 12 = some (.fn (ofG RCnt) [])) (ls : List (List UInt8)) (hl : ls.length ≤ 1000) (op : List UInt8) (s : St) : CallR (En X) 12 [.c (.dat 1 (tx ls)), .c (.str (Str.ofL op))] s (.w (.c (.bool (decide (op ∈ ls))))) s :=
  callR_fn (ps := [.c (.sl 1 (tx ls)), .c (.str (Str.ofL op))]) (pv := .w (.c (.bool (decide (op ∈ ls))))) h12 (ofG_eq ⟨ls, op, rfl, hl, rfl⟩ (by
    rintro v' ⟨ls', op', h1, _, rfl⟩
    simp only [List.cons.injEq, PW.c.injEq, D.sl.injEq, D.str.injEq, true_and, and_true] at h1
    rw [tx_inj h1.1, ofL_inj h1.2])) rfl
/-! the row of signs -/
def sgText : List UInt8 := [45, 101, 113, 32, 45, 110, 101, 32, 45, 108, 116, 32, 45, 108, 101, 32, 45, 103, 116, 32, 45, 103, 101]
abbrev gsM : List (Nat × List C) := Bk.gs.take 1
theorem gsM_ok : gsM.all (fun p => and (p.2.all plainC) (decide (p.1 < Tryz.prog.globals.size))) = true := by kernel_rfl
def sgL : List (List PW × PV) := [([.c (.str (Str.ofL sgText))], .w (.c (.sl 1 (tx signs))))]
theorem sg_run : sgL.all (fun m => pureRun (runF (envOf Tryz.prog [] kps) 20 (200 + 1) 11 (m.1.map PW.toW) (st0 gsM Tryz.prog.globals.size)) m.2) = true := by kernel_rfl
noncomputable def e11 : Nat × Ext := (11, .fn (memoF sgL) gsM)
theorem c11 : Ok e11 := ext_memoF any_ok types_ok fns_ok ok0 gsM gsM_ok rfl sgL (runs_all 20 200 sg_run)
theorem callR_fields {X : T Ext} (h11 : (En X).ext.get 11 = some (.fn (memoF sgL) gsM)) (s : St) (hg : rowsAre s.h.get gsM = true) : CallR (En X) 11 [.c (.str (Str.ofL sgText))] s (.w (.c (.dat 1 (tx signs)))) s :=
  callR_fn_g (ps := [.c (.str (Str.ofL sgText))]) (pv := .w (.c (.sl 1 (tx signs)))) h11 hg (by kernel_rfl) rfl
end Bn
