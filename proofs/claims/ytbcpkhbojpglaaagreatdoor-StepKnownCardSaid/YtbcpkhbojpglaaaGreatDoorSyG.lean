import Derived.Test.YtbcpkhbojpglaaaGreatDoorSyF
import Derived.Test.YtbcpkhbojpglaaaGreatDoorEwK
namespace Sy
open Go Go.Proofs Ev
set_option linter.unusedVariables false
set_option linter.unusedSimpArgs false
set_option maxRecDepth 100000
/-! slices.Clone of frames tells what it is handed -/
theorem b_nn {E : Env} {t e : Nat} (h : undT E t = some (.slice e)) (ox oy : Operand) : Ev.binOp E .eql t ox oy (.c .nils) (.c .nils) = some (vc (.bool true)) := by simp [Ev.binOp, eqAt, h, eqSl, eqOp]
theorem b_dn {E : Env} {t e : Nat} (h : undT E t = some (.slice e)) (ox oy : Operand) (z : Nat) (l : List (List D)) : Ev.binOp E .eql t ox oy (.c (.dat z l)) (.c .nils) = some (vc (.bool false)) := by simp [Ev.binOp, eqAt, h, eqSl, eqOp]
def okFr (l : List (List D)) : Bool := and (l.all fun x => and (Nat.beq x.length 14) (x.all D.plain)) (Nat.ble l.length 1000)
def cloneF : List PW → Option PV
  | [.c .nils] => some (.w (.c .nils))
  | [.c (.sl 14 l)] => match okFr l with
    | true => some (.w (.c (.sl 14 l)))
    | false => none
  | _ => none
theorem clone29 (X : T Ext) (hX : (En X).ext.get 29 = none) (d : D) (hd : d = .nils ∨ ∃ l, d = .sl 14 l ∧ okFr l = true) (s : St) (K : V → St → Prop) (hK : ∀ c s' bs, frzC s'.h.get 64 c = some (d, bs) → K (vc c) s') : goC (En X) 29 [.c d.toC] s K := by
  refine goC_body hX (kp29 X) (fn29 X) rfl (by kernel_rfl) ?_
  have hres : Tryz.f29.results.toList = [.tmp 2] := rfl
  rcases hd with rfl | ⟨l, rfl, hl⟩
  · have : D.nils.toC = .nils := rfl
    simp only [go_seq, go_region, go_move, go_assign, go_len, go_binOp, go_block, go_scope, go_label, go_skip, go_exit, go_ret, go_ops_nil, go_load, go_fieldAddr, go_unOp, go_pick, go_indexAddr, go_slice, go_append, go_alloc, go_box, go_store, go_buildSlice, go_index, go_field, go_extract, go_build, go_nilCheck, go_lookup, go_mapUpdate, go_b, go_nil, goE_nil, goE_nm, goE_ex_c, goE_ret_c, goE_ex_b, goE_ret_b, go_guard, go_lookup, go_mapUpdate, go_cond, goB_tt, goB_ff, goG_tt, goG_ff, goO_some, goV_ok, goN_some, goV_okR, opnd_tmp, opnd_int, opnd_bool, opnd_nils, opnd_nilp, opnd_str, A.get_putP, A.get_baseP, L.get_consP, L.get_setP, L.get_nilP, tbit_eqP, kept_true, kept_false, A.keep_put, A.keep_base, A.flush_put, A.flush_base, putA_some, putA_none, argsA_cons, argsA_nil, toC_vc, toC_c, toW_vc, toW_w, toI_vc, toI_c, toB_vc, toB_c, toP_vc, toP_c, opC_tmp, opW_tmp, opI_tmp, opP_tmp, opC_int, opW_int, opI_int, opW_bool, opC_bool, opW_nils, opW_nilp, opC_nils, opW_str, rBin_eq, rUn_eq, rPick_eq, rLen_eq, rIndexAddr_eq, rFieldAddr_eq, rLoad_eq, aAppend_eq, aApp_eq, aStore_eq, retU_some, retCS_ok, retW_some, retC_some, b_lss, b_leq, b_gtr, b_geq, b_eql, b_neq, b_add, b_sub, b_mul, b_seql, b_sneq, u_not, goR_nm, goR_ret, resOf_nil, resOf_cons, resOne_tmp, tupOf_one, guardOk_eq, boolIs_t, boolIs_f, boolIs_t', boolIs_f', boolIs_skip, nBox_eq, rExtract_eq, resOne_cell, tupOf_two, cells_c, cells_agg, true_implies, false_implies, and_true, true_and, Bool.not_false, Bool.not_true, Bool.true_eq_false, Bool.false_eq_true, decide_eq_true_eq, decide_eq_false_iff_not, Bool.not_eq_true', Bool.not_eq_false', decide_true, decide_false, Nat.reduceShiftRight, Nat.reduceMod, Nat.reduceEqDiff, Nat.reduceAdd, ↓reduceIte, reduceCtorEq, List.getElem?_cons_zero, List.getElem?_cons_succ, this, b_nn (us36 X), hres]
    exact hK _ _ [] rfl
  · unfold okFr at hl
    rw [Bool.and_eq_true] at hl
    obtain ⟨hl, hn⟩ := hl
    have hn := Nat.le_of_ble_eq_true hn
    have h14 : ∀ x ∈ l, x.length = 14 := fun x hx => by
      have := List.all_eq_true.1 hl x hx
      rw [Bool.and_eq_true] at this
      exact Nat.eq_of_beq_eq_true this.1
    have hp : ([] ++ l).flatten.all D.plain = true := by
      rw [List.nil_append, List.all_eq_true]
      intro x hx
      obtain ⟨y, hy, hxy⟩ := List.mem_flatten.1 hx
      have := List.all_eq_true.1 hl y hy
      rw [Bool.and_eq_true] at this
      exact List.all_eq_true.1 this.2 x hxy
    have hbl : SlG (s.new (.row (mkRow []))) (.sl s.nx 0 0 (some 0) 14) 14 [] := SlG.built _ _ _ (by rw [St.new_nx]; omega) (by rw [St.new_h]; show (if s.nx = s.nx then _ else _) = _; rw [if_pos rfl])
    have ht : (D.sl 14 l).toC = .dat 14 l := rfl
    simp only [go_seq, go_region, go_move, go_assign, go_len, go_binOp, go_block, go_scope, go_label, go_skip, go_exit, go_ret, go_ops_nil, go_load, go_fieldAddr, go_unOp, go_pick, go_indexAddr, go_slice, go_append, go_alloc, go_box, go_store, go_buildSlice, go_index, go_field, go_extract, go_build, go_nilCheck, go_lookup, go_mapUpdate, go_b, go_nil, goE_nil, goE_nm, goE_ex_c, goE_ret_c, goE_ex_b, goE_ret_b, go_guard, go_lookup, go_mapUpdate, go_cond, goB_tt, goB_ff, goG_tt, goG_ff, goO_some, goV_ok, goN_some, goV_okR, opnd_tmp, opnd_int, opnd_bool, opnd_nils, opnd_nilp, opnd_str, A.get_putP, A.get_baseP, L.get_consP, L.get_setP, L.get_nilP, tbit_eqP, kept_true, kept_false, A.keep_put, A.keep_base, A.flush_put, A.flush_base, putA_some, putA_none, argsA_cons, argsA_nil, toC_vc, toC_c, toW_vc, toW_w, toI_vc, toI_c, toB_vc, toB_c, toP_vc, toP_c, opC_tmp, opW_tmp, opI_tmp, opP_tmp, opC_int, opW_int, opI_int, opW_bool, opC_bool, opW_nils, opW_nilp, opC_nils, opW_str, rBin_eq, rUn_eq, rPick_eq, rLen_eq, rIndexAddr_eq, rFieldAddr_eq, rLoad_eq, aAppend_eq, aApp_eq, aStore_eq, retU_some, retCS_ok, retW_some, retC_some, b_lss, b_leq, b_gtr, b_geq, b_eql, b_neq, b_add, b_sub, b_mul, b_seql, b_sneq, u_not, goR_nm, goR_ret, resOf_nil, resOf_cons, resOne_tmp, tupOf_one, guardOk_eq, boolIs_t, boolIs_f, boolIs_t', boolIs_f', boolIs_skip, nBox_eq, rExtract_eq, resOne_cell, tupOf_two, cells_c, cells_agg, true_implies, false_implies, and_true, true_and, Bool.not_false, Bool.not_true, Bool.true_eq_false, Bool.false_eq_true, decide_eq_true_eq, decide_eq_false_iff_not, Bool.not_eq_true', Bool.not_eq_false', decide_true, decide_false, Nat.reduceShiftRight, Nat.reduceMod, Nat.reduceEqDiff, Nat.reduceAdd, ↓reduceIte, reduceCtorEq, List.getElem?_cons_zero, List.getElem?_cons_succ, ht, b_dn (us36 X), nBuildSlice_eq, partsOf_nil, bS36_0]
    generalize s.new (.row (mkRow [])) = s3 at *
    obtain ⟨c', s4, happ, hsl, _⟩ := app_G (l := l) (el36 X) ti97.1 hbl h14 (by decide) (newCells_dat s3.h.get 14 l) (by rw [ti97.2]; simp only [List.length_nil, Nat.zero_add]; have : maxBytes = 140737488355328 := rfl; omega)
    obtain ⟨b, cap, rfl, _, hf⟩ := hsl.frz hp (by decide) 63
    simp only [go_seq, go_region, go_move, go_assign, go_len, go_binOp, go_block, go_scope, go_label, go_skip, go_exit, go_ret, go_ops_nil, go_load, go_fieldAddr, go_unOp, go_pick, go_indexAddr, go_slice, go_append, go_alloc, go_box, go_store, go_buildSlice, go_index, go_field, go_extract, go_build, go_nilCheck, go_lookup, go_mapUpdate, go_b, go_nil, goE_nil, goE_nm, goE_ex_c, goE_ret_c, goE_ex_b, goE_ret_b, go_guard, go_lookup, go_mapUpdate, go_cond, goB_tt, goB_ff, goG_tt, goG_ff, goO_some, goV_ok, goN_some, goV_okR, opnd_tmp, opnd_int, opnd_bool, opnd_nils, opnd_nilp, opnd_str, A.get_putP, A.get_baseP, L.get_consP, L.get_setP, L.get_nilP, tbit_eqP, kept_true, kept_false, A.keep_put, A.keep_base, A.flush_put, A.flush_base, putA_some, putA_none, argsA_cons, argsA_nil, toC_vc, toC_c, toW_vc, toW_w, toI_vc, toI_c, toB_vc, toB_c, toP_vc, toP_c, opC_tmp, opW_tmp, opI_tmp, opP_tmp, opC_int, opW_int, opI_int, opW_bool, opC_bool, opW_nils, opW_nilp, opC_nils, opW_str, rBin_eq, rUn_eq, rPick_eq, rLen_eq, rIndexAddr_eq, rFieldAddr_eq, rLoad_eq, aAppend_eq, aApp_eq, aStore_eq, retU_some, retCS_ok, retW_some, retC_some, b_lss, b_leq, b_gtr, b_geq, b_eql, b_neq, b_add, b_sub, b_mul, b_seql, b_sneq, u_not, goR_nm, goR_ret, resOf_nil, resOf_cons, resOne_tmp, tupOf_one, guardOk_eq, boolIs_t, boolIs_f, boolIs_t', boolIs_f', boolIs_skip, nBox_eq, rExtract_eq, resOne_cell, tupOf_two, cells_c, cells_agg, true_implies, false_implies, and_true, true_and, Bool.not_false, Bool.not_true, Bool.true_eq_false, Bool.false_eq_true, decide_eq_true_eq, decide_eq_false_iff_not, Bool.not_eq_true', Bool.not_eq_false', decide_true, decide_false, Nat.reduceShiftRight, Nat.reduceMod, Nat.reduceEqDiff, Nat.reduceAdd, ↓reduceIte, reduceCtorEq, List.getElem?_cons_zero, List.getElem?_cons_succ, us36, happ, hres]
    exact hK _ _ _ hf
theorem frz_c {s : St} {c : C} {d : D} {bs : List Nat} (h : frzC s.h.get 64 c = some (d, bs)) : frzV s.h.get (vc c) = some (.w (.c d), bs) := by
  simp only [vc, frzV, frzW, h]
noncomputable def e29 : Nat × Ext := (29, .fn cloneF [])
theorem c29 : OkE Tryz.prog e29 := by
  refine ext_fn rfl (pure_of_run (exts := []) any_ok types_ok fns_ok oks0 (f := 29) rfl [] _ fun ps pv hp => ?_)
  have : ∃ d, ps = [.c d] ∧ (d = .nils ∨ ∃ l, d = .sl 14 l ∧ okFr l = true) ∧ pv = .w (.c d) := by
    unfold cloneF at hp
    split at hp
    · cases hp; exact ⟨_, rfl, .inl rfl, rfl⟩
    · split at hp
      · rename_i hh; cases hp; exact ⟨_, rfl, .inr ⟨_, rfl, hh⟩, rfl⟩
      · cases hp
    · cases hp
  obtain ⟨d, rfl, hd, rfl⟩ := this
  obtain ⟨v, s', ⟨N, hN⟩, bs, hz⟩ := clone29 (pairT [] .nil) rfl d hd (st0 [] Tryz.prog.globals.size) (fun v s' => ∃ bs, frzV s'.h.get v = some (PV.w (.c d), bs)) fun c s' bs h => ⟨bs, frz_c h⟩
  exact ⟨N, N, v, s', bs, hN N (N + 1) (Nat.le_refl _) (Nat.le_succ _), hz⟩
noncomputable abbrev extsC : List (Nat × Ext) := e29 :: extsT
theorem extsC_ok : OksE Tryz.prog extsC := oks1 c29 extsT_ok
end Sy
