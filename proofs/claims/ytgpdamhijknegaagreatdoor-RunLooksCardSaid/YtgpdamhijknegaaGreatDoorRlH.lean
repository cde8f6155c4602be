import Derived.Test.YtgpdamhijknegaaGreatDoorRlG
import Derived.Test.YtgpdamhijknegaaGreatDoorEwI
import Derived.Test.YtgpdamhijknegaaGreatDoorEwJ
namespace Rl
open Go Go.Proofs Ev
set_option linter.unusedVariables false
set_option linter.unusedSimpArgs false
set_option maxRecDepth 100000
/-- what is asked of a machine -/
structure GoodS (x : List D) : Prop where
  len : x.length = 21
  plain : x.all D.plain = true
  vr : ∃ d, x[0]? = some d ∧ Good 2 Str2 d ∧ (els d).length * 32 ≤ maxBytes
  fl : ∃ d, x[3]? = some d ∧ Good 2 Str2 d ∧ (els d).length * 32 ≤ maxBytes
  st : ∃ n, x[4]? = some (.int .i64 n)
  ot : ∃ l, x[5]? = some (.str (Str.ofL l))
def endO (x : List D) (ca : D) : List D := [.int .i64 0, x.getD 4 .nils, x.getD 5 .nils, x.getD 3 .nils, x.getD 0 .nils, ca]
theorem endO_good {x : List D} {ca : D} (h : GoodS x) (hca : Good 4 GoodC ca) : GoodO (endO x ca) := by
  obtain ⟨vr, hv, gv, _⟩ := h.vr
  obtain ⟨fl, hf, gf, _⟩ := h.fl
  obtain ⟨n, hn⟩ := h.st
  obtain ⟨l, hl⟩ := h.ot
  refine ⟨0, n, l, fl, vr, ca, ?_, gf, gv, hca⟩
  simp only [endO, List.getD_eq_getElem?_getD, hv, hf, hn, hl, Option.getD_some]
def REnd (ps : List PW) (v : PV) : Prop := ∃ x ca, ps = [.agg x, .c ca] ∧ GoodS x ∧ Good 4 GoodC ca ∧ (els ca).length ≤ 50 ∧ v = .w (.agg (endO x ca))
theorem callR_end {E : Env} {f : Nat} {x : List D} {ca : D} {s : St} (hx : E.ext.get f = some (.fn (ofG REnd) [])) (h1 : GoodS x) (h2 : Good 4 GoodC ca) (h3 : (els ca).length ≤ 50) : CallR E f [.agg (cellsD x), .c ca.toC] s (.w (.agg (cellsD (endO x ca)))) s :=
  callR_fn (ps := [.agg x, .c ca]) (pv := .w (.agg (endO x ca))) hx (ofG_eq ⟨x, ca, rfl, h1, h2, h3, rfl⟩ (by rintro v' ⟨x', ca', h1, _, _, _, rfl⟩; cases h1; rfl)) (by simp [PW.plain, isels_plain h2.el, h1.plain])
theorem cellsD_get {x : List D} {i : Nat} {d : D} (h : x[i]? = some d) : (cellsD x)[i]? = some d.toC := by
  show (x.map D.toC)[i]? = _
  rw [List.getElem?_map, h]; rfl
theorem rBuild_eq (E : Env) (a : A) (t : Nat) (ps : List (Nat × Operand)) : rBuild E a t ps = match partsOf a ps with
  | some l => retW (build E t l)
  | none => none := rfl
theorem bu45 (X : T Ext) (c1 c2 c3 c4 c5 : C) : build (En X) 45 [(1, .c c1), (2, .c c2), (3, .c c3), (4, .c c4), (5, .c c5)] = some (.agg [.int .i64 0, c1, c2, c3, c4, c5]) := by kernel_rfl
theorem lor_eq (a b : Nat) : Nat.lor a b = a ||| b := rfl
theorem land_eq (a b : Nat) : Nat.land a b = a &&& b := rfl
theorem shl_eq (a b : Nat) : Nat.shiftLeft a b = a <<< b := rfl
theorem nbeq_eq (a b : Nat) : (Nat.beq a b = true) = (a = b) := propext ⟨Nat.eq_of_beq_eq_true, fun h => by subst h; exact Nat.beq_refl _⟩
theorem again_eq (E : Env) (f : Env → A → Look → Option V) (a : A) (s : St) (v : V) : again E f a s v = match f E a s.h.get with
  | some u => V.same u v
  | none => false := rfl
theorem V_same_toC (d : D) : V.same (.w (.c d.toC)) (.w (.c d.toC)) = true := C.same_toC d
theorem V_same_dat (z : Nat) (l : List (List D)) : V.same (.w (.c (.dat z l))) (.w (.c (.dat z l))) = true := C.same_toC (.sl z l)

theorem refEnd8 (X : T Ext) (hX : (En X).ext.get 8 = none) (x : List D) (ca : D) (s : St) (h : GoodS x) (hca : Good 4 GoodC ca) (K : V → St → Prop) (hK : ∀ s', K (.w (.agg (cellsD (endO x ca)))) s') :
    goC (En X) 8 [.agg (cellsD x), .c ca.toC] s K := by
  refine goC_body hX (kp8 X) (fn8 X) rfl (by kernel_rfl) ?_
  obtain ⟨vr, hv, gv, _⟩ := h.vr
  obtain ⟨fl, hf, gf, _⟩ := h.fl
  obtain ⟨n, hn⟩ := h.st
  obtain ⟨l, hl⟩ := h.ot
  have hgo := endO_good h hca
  have q2 := LRow.new s (cellsD x)
  have hnx : (s.new (.row (mkRow (cellsD x)))).nx = s.nx + 1 := St.new_nx _ _
  simp only [go_seq, go_region, go_move, go_assign, go_len, go_binOp, go_block, go_scope, go_label, go_skip, go_exit, go_ret, go_ops_nil, go_load, go_fieldAddr, go_unOp, go_pick, go_indexAddr, go_slice, go_append, go_alloc, go_box, go_store, go_buildSlice, go_index, go_field, go_extract, go_build, go_nilCheck, go_lookup, go_mapUpdate, go_b, go_nil, goE_nil, goE_nm, goE_ex_c, goE_ret_c, goE_ex_b, goE_ret_b, go_guard, go_lookup, go_mapUpdate, go_cond, goB_tt, goB_ff, goG_tt, goG_ff, goO_some, goV_ok, goN_some, goV_okR, opnd_tmp, opnd_int, opnd_bool, opnd_nils, opnd_nilp, opnd_str, A.get_putP, A.get_baseP, L.get_consP, L.get_setP, L.get_nilP, tbit_eqP, kept_true, kept_false, A.keep_put, A.keep_base, A.flush_put, A.flush_base, putA_some, putA_none, argsA_cons, argsA_nil, toC_vc, toC_c, toW_vc, toW_w, toI_vc, toI_c, toB_vc, toB_c, toP_vc, toP_c, opC_tmp, opW_tmp, opI_tmp, opP_tmp, opC_int, opW_int, opI_int, opW_bool, opC_bool, opW_nils, opW_nilp, opC_nils, opW_str, rBin_eq, rUn_eq, rPick_eq, rLen_eq, rIndexAddr_eq, rFieldAddr_eq, rLoad_eq, aAppend_eq, aApp_eq, aStore_eq, retU_some, retCS_ok, retW_some, retC_some, b_lss, b_leq, b_gtr, b_geq, b_eql, b_neq, b_add, b_sub, b_mul, b_seql, b_sneq, u_not, goR_nm, goR_ret, resOf_nil, resOf_cons, resOne_tmp, tupOf_one, guardOk_eq, boolIs_t, boolIs_f, boolIs_t', boolIs_f', boolIs_skip, nBox_eq, rExtract_eq, resOne_cell, tupOf_two, cells_c, cells_agg, true_implies, false_implies, and_true, true_and, Bool.not_false, Bool.not_true, Bool.true_eq_false, Bool.false_eq_true, decide_eq_true_eq, decide_eq_false_iff_not, Bool.not_eq_true', Bool.not_eq_false', decide_true, decide_false, Nat.reduceShiftRight, Nat.reduceMod, Nat.reduceEqDiff, Nat.reduceAdd, ↓reduceIte, reduceCtorEq, List.getElem?_cons_zero, List.getElem?_cons_succ]
  generalize s.new (.row (mkRow (cellsD x))) = s1 at q2 hnx ⊢
  obtain ⟨s2, w2, r2, n2, o2⟩ := row_written s1 [.int .i64 0, .int .i64 0, .str ⟨0, 0⟩, .nils, .nils, .nils] (cellsD (endO x ca)) (goodO_len hgo)
  have hcell : cellsD (endO x ca) = [.int .i64 0, .int .i64 n, .str (Str.ofL l), fl.toC, vr.toC, ca.toC] := by
    simp only [endO, List.getD_eq_getElem?_getD, hv, hf, hn, hl, Option.getD_some]; rfl
  have hl2 := LRow.ldA6 hgo r2
  have q3 : LRow (s1.new (.row (mkRow [.int .i64 0, .int .i64 0, .str ⟨0, 0⟩, .nils, .nils, .nils]))) s.nx (cellsD x) := q2.keep (new_old s1 _ (by omega))
  have a4 := q3.ldC (cellsD_get hn)
  have a5 := q3.ldC (cellsD_get hl)
  have a3 := q3.ldC (cellsD_get hf)
  have a0 := q3.ldC (cellsD_get hv)
  have hres : Tryz.f8.results.toList = [.cell 4 45] := rfl
  rw [hcell] at w2 hl2 hK
  simp only [D.toC] at a4 a5
  simp only [go_seq, go_region, go_move, go_assign, go_len, go_binOp, go_block, go_scope, go_label, go_skip, go_exit, go_ret, go_ops_nil, go_load, go_fieldAddr, go_unOp, go_pick, go_indexAddr, go_slice, go_append, go_alloc, go_box, go_store, go_buildSlice, go_index, go_field, go_extract, go_build, go_nilCheck, go_lookup, go_mapUpdate, go_b, go_nil, goE_nil, goE_nm, goE_ex_c, goE_ret_c, goE_ex_b, goE_ret_b, go_guard, go_lookup, go_mapUpdate, go_cond, goB_tt, goB_ff, goG_tt, goG_ff, goO_some, goV_ok, goN_some, goV_okR, opnd_tmp, opnd_int, opnd_bool, opnd_nils, opnd_nilp, opnd_str, A.get_putP, A.get_baseP, L.get_consP, L.get_setP, L.get_nilP, tbit_eqP, kept_true, kept_false, A.keep_put, A.keep_base, A.flush_put, A.flush_base, putA_some, putA_none, argsA_cons, argsA_nil, toC_vc, toC_c, toW_vc, toW_w, toI_vc, toI_c, toB_vc, toB_c, toP_vc, toP_c, opC_tmp, opW_tmp, opI_tmp, opP_tmp, opC_int, opW_int, opI_int, opW_bool, opC_bool, opW_nils, opW_nilp, opC_nils, opW_str, rBin_eq, rUn_eq, rPick_eq, rLen_eq, rIndexAddr_eq, rFieldAddr_eq, rLoad_eq, aAppend_eq, aApp_eq, aStore_eq, retU_some, retCS_ok, retW_some, retC_some, b_lss, b_leq, b_gtr, b_geq, b_eql, b_neq, b_add, b_sub, b_mul, b_seql, b_sneq, u_not, goR_nm, goR_ret, resOf_nil, resOf_cons, resOne_tmp, tupOf_one, guardOk_eq, boolIs_t, boolIs_f, boolIs_t', boolIs_f', boolIs_skip, nBox_eq, rExtract_eq, resOne_cell, tupOf_two, cells_c, cells_agg, true_implies, false_implies, and_true, true_and, Bool.not_false, Bool.not_true, Bool.true_eq_false, Bool.false_eq_true, decide_eq_true_eq, decide_eq_false_iff_not, Bool.not_eq_true', Bool.not_eq_false', decide_true, decide_false, Nat.reduceShiftRight, Nat.reduceMod, Nat.reduceEqDiff, Nat.reduceAdd, ↓reduceIte, reduceCtorEq, List.getElem?_cons_zero, List.getElem?_cons_succ, al45, fA_37_0, fA_37_1, fA_37_2, fA_37_3, fA_27_0, ldh3, ldh9, ldh28, ldh23, a4, a5, a3, a0, rBuild_eq, partsOf_cons, partsOf_nil, bu45, st45, List.length_cons, List.length_nil, w2, ldh45, hl2, hres]
  exact hK _
end Rl
