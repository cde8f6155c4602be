import Derived.Test.YtpkjpkfamdmgiaaGreatDoorWsA
import Derived.Test.YtpkjpkfamdmgiaaGreatDoorWkA
import Derived.Test.YtpkjpkfamdmgiaaGreatDoorEwK
namespace Ws
open Go Go.Proofs Ev
set_option linter.unusedVariables false
set_option linter.unusedSimpArgs false
set_option linter.unnecessarySimpa false
set_option maxRecDepth 100000
def rl (s : Str) : Nat → Nat → List Nat
  | 0, _ => []
  | f + 1, i => if i < s.len then (dec s i).1 :: rl s f (i + (dec s i).2) else []
theorem bif_w {b : Bool} {x y : Nat × Nat} (hx : 1 ≤ x.2) (hy : 1 ≤ y.2) : 1 ≤ (bif b then x else y).2 := by cases b <;> assumption
theorem dec_w (s : Str) (i : Nat) : 1 ≤ (dec s i).2 := by
  unfold dec
  refine bif_w (Nat.le_refl 1) (bif_w ?_ (bif_w ?_ (bif_w ?_ (Nat.le_refl 1))))
  · exact bif_w (show 1 ≤ 2 by decide) (Nat.le_refl 1)
  · exact bif_w (show 1 ≤ 3 by decide) (Nat.le_refl 1)
  · exact bif_w (show 1 ≤ 4 by decide) (Nat.le_refl 1)
theorem rl_len (s : Str) : ∀ f i, (rl s f i).length ≤ f
  | 0, _ => Nat.le_refl _
  | f + 1, i => by
    unfold rl
    split
    · have := rl_len s f (i + (dec s i).2)
      simp; omega
    · simp
def runes (v : List UInt8) : List Nat := rl (Str.ofL v) v.length 0
theorem runes_len (v : List UInt8) : (runes v).length ≤ v.length := rl_len _ _ _
def elR (r : Nat) : List D := [.int .i32 (Int.ofNat r)]
theorem elR_one (l : List Nat) : ∀ x ∈ l.map elR, x.length = 1 := by
  intro x hx
  obtain ⟨r, _, rfl⟩ := List.mem_map.1 hx; rfl
theorem elR_plain (l : List Nat) : (l.map elR).flatten.all D.plain = true := by
  rw [List.all_eq_true]
  intro d hd
  obtain ⟨x, hx, hdx⟩ := List.mem_flatten.1 hd
  obtain ⟨r, _, rfl⟩ := List.mem_map.1 hx
  have : d = .int .i32 (Int.ofNat r) := by simpa [elR] using hdx
  rw [this]; rfl
theorem aNext_eq (a : A) (x : Operand) (b : Bool) (s : St) : aNext a x b s = match opC a x with
  | some c => next c b s
  | none => .no := rfl
theorem next_at {s : St} {r i : Nat} {z : Str} (h : s.h.get r = some (.iter z i)) (hi : i < z.len) : next (.ptr r 0) true s = .ok (.tup [.c (.bool true), .c (.int .i64 (Int.ofNat i)), .c (.int .i32 (Int.ofNat (dec z i).1))]) ⟨s.h.set r (.iter z (i + (dec z i).2)), s.nx⟩ := by
  unfold next
  simp only [h]
  unfold nextI
  rw [show Nat.ble (Nat.succ i) z.len = true from nble_true hi]
  rfl
theorem next_end {s : St} {r i : Nat} {z : Str} (h : s.h.get r = some (.iter z i)) (hi : ¬ i < z.len) : next (.ptr r 0) true s = .ok (.tup [.c (.bool false)]) s := by
  unfold next
  simp only [h]
  unfold nextI
  rw [show Nat.ble (Nat.succ i) z.len = false from nble_false hi]
theorem nRange_eq (X : T Ext) (a : A) (x : Operand) (id : Nat) : nRange (En X) a 9 x id = match opC a x with
  | some (.str z) => some (vc (.ptr id 0), .iter z 0)
  | _ => none := by unfold nRange; rw [ustr9]; rfl
theorem SlAt.other {s : St} {r : Nat} {y : Blk} {c : C} {z : Nat} {els : List (List D)} (h : SlAt s c z els) (hr : ∀ b o n cap z, c = .sl b o n cap z → r < b) : SlAt ⟨s.h.set r y, s.nx⟩ c z els := by
  obtain ⟨h1, h2⟩ := h
  refine ⟨h1, h2.imp id ?_⟩
  rintro ⟨b, sh, anc, rfl, h3, h4, h5⟩
  exact ⟨b, sh, anc, rfl, by show (s.h.set r y).get b = _; rw [T.get_set, if_neg (by have := hr _ _ _ _ _ rfl; omega)]; exact h3, h4, h5⟩
theorem SlAt.newRow {s : St} {y : Blk} {c : C} {z : Nat} {els : List (List D)} (h : SlAt s c z els) : SlAt (s.new y) c z els := by
  obtain ⟨h1, h2⟩ := h
  refine ⟨h1, h2.imp id ?_⟩
  rintro ⟨b, sh, anc, rfl, h3, h4, h5⟩
  exact ⟨b, sh, anc, rfl, by rw [new_old s y h5]; exact h3, h4, by rw [St.new_nx]; omega⟩
theorem runes45 (X : T Ext) (hX : (En X).ext.get 45 = none) (v : List UInt8) (hv : v.length ≤ 1000) (s : St) (K : V → St → Prop) (hK : ∀ c s', SlAt s' c 1 ((runes v).map elR) → K (vc c) s') : goC (En X) 45 [.c (.str (Str.ofL v))] s K := by
  refine goC_body hX (kp45 X) (fn45 X) rfl (by kernel_rfl) ?_
  have hres : Tryz.f45.results.toList = [.tmp 2] := rfl
  have hlen : (Str.ofL v).len = v.length := rfl
  have hit : (s.new (.iter (Str.ofL v) 0)).h.get s.nx = some (.iter (Str.ofL v) 0) := by
    rw [St.new_h]
    show (if s.nx = s.nx then _ else _) = _
    rw [if_pos rfl]
  have n1 : (s.new (.iter (Str.ofL v) 0)).nx = s.nx + 1 := St.new_nx _ _
  simp only [go_seq, go_region, go_move, go_assign, go_len, go_binOp, go_block, go_scope, go_label, go_skip, go_exit, go_ret, go_ops_nil, go_load, go_fieldAddr, go_unOp, go_pick, go_indexAddr, go_slice, go_append, go_alloc, go_box, go_store, go_buildSlice, go_index, go_field, go_extract, go_build, go_nilCheck, go_lookup, go_mapUpdate, go_b, go_nil, goE_nil, goE_nm, goE_ex_c, goE_ret_c, goE_ex_b, goE_ret_b, go_guard, go_lookup, go_mapUpdate, go_cond, goB_tt, goB_ff, goG_tt, goG_ff, goO_some, goV_ok, goN_some, goV_okR, opnd_tmp, opnd_int, opnd_bool, opnd_nils, opnd_nilp, opnd_str, A.get_putP, A.get_baseP, L.get_consP, L.get_setP, L.get_nilP, tbit_eqP, kept_true, kept_false, A.keep_put, A.keep_base, A.flush_put, A.flush_base, putA_some, putA_none, argsA_cons, argsA_nil, toC_vc, toC_c, toW_vc, toW_w, toI_vc, toI_c, toB_vc, toB_c, toP_vc, toP_c, opC_tmp, opW_tmp, opI_tmp, opP_tmp, opC_int, opW_int, opI_int, opW_bool, opC_bool, opW_nils, opW_nilp, opC_nils, opW_str, rBin_eq, rUn_eq, rPick_eq, rLen_eq, rIndexAddr_eq, rFieldAddr_eq, rLoad_eq, aAppend_eq, aApp_eq, aStore_eq, retU_some, retCS_ok, retW_some, retC_some, b_lss, b_leq, b_gtr, b_geq, b_eql, b_neq, b_add, b_sub, b_mul, b_seql, b_sneq, u_not, goR_nm, goR_ret, resOf_nil, resOf_cons, resOne_tmp, tupOf_one, guardOk_eq, boolIs_t, boolIs_f, boolIs_t', boolIs_f', boolIs_skip, nBox_eq, rExtract_eq, resOne_cell, tupOf_two, cells_c, cells_agg, true_implies, false_implies, and_true, true_and, Bool.not_false, Bool.not_true, Bool.true_eq_false, Bool.false_eq_true, decide_eq_true_eq, decide_eq_false_iff_not, Bool.not_eq_true', Bool.not_eq_false', decide_true, decide_false, Nat.reduceShiftRight, Nat.reduceMod, Nat.reduceEqDiff, Nat.reduceAdd, ↓reduceIte, reduceCtorEq, List.getElem?_cons_zero, List.getElem?_cons_succ, go_range, nRange_eq]
  generalize s.new (.iter (Str.ofL v) 0) = s1 at hit n1 ⊢
  generalize hp : s.nx = p at *
  refine go_loop (goL_inv (fun n' a' s' => ∃ i dn c, n' = v.length - i ∧ Has a' 3 (vc c) ∧ Has a' 7 (vc (.ptr p 0)) ∧ s'.h.get p = some (.iter (Str.ofL v) i) ∧ p < s'.nx ∧ SlAt s' c 1 (dn.map elR) ∧ (∀ b o n cap z, c = .sl b o n cap z → p < b) ∧ (∃ f, runes v = dn ++ rl (Str.ofL v) f i ∧ v.length ≤ i + f)) (n := v.length)
    ⟨0, [], .nils, rfl, ⟨rfl, rfl⟩, ⟨rfl, rfl⟩, hit, by omega, SlAt.nil _ _, (fun b o n cap z h => by cases h), v.length, rfl, by omega⟩ ?_)
  rintro n' a' s' ⟨i, dn, c, rfl, ⟨g3, k3⟩, ⟨g7, k7⟩, hi, hnx, hsl, hne, f, hf, hle⟩
  by_cases hlt : i < v.length
  · have hnext := next_at hi (by rw [hlen]; exact hlt)
    obtain ⟨f', rfl⟩ : ∃ f', f = f' + 1 := ⟨f - 1, by omega⟩
    have hw := dec_w (Str.ofL v) i
    have hrl : rl (Str.ofL v) (f' + 1) i = (dec (Str.ofL v) i).1 :: rl (Str.ofL v) f' (i + (dec (Str.ofL v) i).2) := by
      conv => lhs; unfold rl
      rw [hlen, if_pos hlt]
    rw [hrl] at hf
    have hdn : (dn ++ [(dec (Str.ofL v) i).1]).length ≤ 1000 := by
      have h1 := congrArg List.length hf
      have h2 := runes_len v
      simp at h1 ⊢
      omega
    have sl2 : SlAt ⟨s'.h.set p (.iter (Str.ofL v) (i + (dec (Str.ofL v) i).2)), s'.nx⟩ c 1 (dn.map elR) := SlAt.other hsl hne
    have it2 : (⟨s'.h.set p (.iter (Str.ofL v) (i + (dec (Str.ofL v) i).2)), s'.nx⟩ : St).h.get p = some (.iter (Str.ofL v) (i + (dec (Str.ofL v) i).2)) := T.get_set_same _ _ _
    have nx2 : (⟨s'.h.set p (.iter (Str.ofL v) (i + (dec (Str.ofL v) i).2)), s'.nx⟩ : St).nx = s'.nx := rfl
    simp only [go_seq, go_region, go_move, go_assign, go_len, go_binOp, go_block, go_scope, go_label, go_skip, go_exit, go_ret, go_ops_nil, go_load, go_fieldAddr, go_unOp, go_pick, go_indexAddr, go_slice, go_append, go_alloc, go_box, go_store, go_buildSlice, go_index, go_field, go_extract, go_build, go_nilCheck, go_lookup, go_mapUpdate, go_b, go_nil, goE_nil, goE_nm, goE_ex_c, goE_ret_c, goE_ex_b, goE_ret_b, go_guard, go_lookup, go_mapUpdate, go_cond, goB_tt, goB_ff, goG_tt, goG_ff, goO_some, goV_ok, goN_some, goV_okR, opnd_tmp, opnd_int, opnd_bool, opnd_nils, opnd_nilp, opnd_str, A.get_putP, A.get_baseP, L.get_consP, L.get_setP, L.get_nilP, tbit_eqP, kept_true, kept_false, A.keep_put, A.keep_base, A.flush_put, A.flush_base, putA_some, putA_none, argsA_cons, argsA_nil, toC_vc, toC_c, toW_vc, toW_w, toI_vc, toI_c, toB_vc, toB_c, toP_vc, toP_c, opC_tmp, opW_tmp, opI_tmp, opP_tmp, opC_int, opW_int, opI_int, opW_bool, opC_bool, opW_nils, opW_nilp, opC_nils, opW_str, rBin_eq, rUn_eq, rPick_eq, rLen_eq, rIndexAddr_eq, rFieldAddr_eq, rLoad_eq, aAppend_eq, aApp_eq, aStore_eq, retU_some, retCS_ok, retW_some, retC_some, b_lss, b_leq, b_gtr, b_geq, b_eql, b_neq, b_add, b_sub, b_mul, b_seql, b_sneq, u_not, goR_nm, goR_ret, resOf_nil, resOf_cons, resOne_tmp, tupOf_one, guardOk_eq, boolIs_t, boolIs_f, boolIs_t', boolIs_f', boolIs_skip, nBox_eq, rExtract_eq, resOne_cell, tupOf_two, cells_c, cells_agg, true_implies, false_implies, and_true, true_and, Bool.not_false, Bool.not_true, Bool.true_eq_false, Bool.false_eq_true, decide_eq_true_eq, decide_eq_false_iff_not, Bool.not_eq_true', Bool.not_eq_false', decide_true, decide_false, Nat.reduceShiftRight, Nat.reduceMod, Nat.reduceEqDiff, Nat.reduceAdd, ↓reduceIte, reduceCtorEq, List.getElem?_cons_zero, List.getElem?_cons_succ, g3, k3, g7, k7, go_next, aNext_eq, hnext]
    generalize (⟨s'.h.set p (.iter (Str.ofL v) (i + (dec (Str.ofL v) i).2)), s'.nx⟩ : St) = s2 at sl2 it2 nx2 ⊢
    generalize hr : (dec (Str.ofL v) i).1 = r at *
    have sl3 := SlAt.newRow (y := .row (mkRow [.int .i32 (Int.ofNat r)])) sl2
    have it3 : (s2.new (.row (mkRow [.int .i32 (Int.ofNat r)]))).h.get p = some (.iter (Str.ofL v) (i + (dec (Str.ofL v) i).2)) := by rw [new_old s2 _ (by omega)]; exact it2
    have nx3 : (s2.new (.row (mkRow [.int .i32 (Int.ofNat r)]))).nx = s2.nx + 1 := St.new_nx _ _
    have hrow : (s2.new (.row (mkRow [.int .i32 (Int.ofNat r)]))).h.get s2.nx = some (.row ⟨T.ofL [.int .i32 (Int.ofNat r)], 1, true, 0, []⟩) := by rw [row_newC, mkRow_eq]; rfl
    have hn := newCells_one (z := 1) (x := elR r) hrow (T.getL_ofL _) (some 1)
    rw [nx2] at hn nx3
    obtain ⟨c', s4, happ, sl4, kp4, hc4⟩ := app_cells (y := .sl s'.nx 0 1 (some 1) 1) (l := [elR r]) (el63 X) (by rw [ti21.1]; exact sl3) (by rw [ti21.1]; intro x hx; simp at hx; subst hx; rfl) (by rw [ti21.1]; decide)
      (by rw [ti21.1]; exact hn) (by rw [ti21.2]; have : maxBytes = 140737488355328 := rfl; simp at hdn ⊢; omega)
    rw [ti21.1] at sl4
    simp only [go_seq, go_region, go_move, go_assign, go_len, go_binOp, go_block, go_scope, go_label, go_skip, go_exit, go_ret, go_ops_nil, go_load, go_fieldAddr, go_unOp, go_pick, go_indexAddr, go_slice, go_append, go_alloc, go_box, go_store, go_buildSlice, go_index, go_field, go_extract, go_build, go_nilCheck, go_lookup, go_mapUpdate, go_b, go_nil, goE_nil, goE_nm, goE_ex_c, goE_ret_c, goE_ex_b, goE_ret_b, go_guard, go_lookup, go_mapUpdate, go_cond, goB_tt, goB_ff, goG_tt, goG_ff, goO_some, goV_ok, goN_some, goV_okR, opnd_tmp, opnd_int, opnd_bool, opnd_nils, opnd_nilp, opnd_str, A.get_putP, A.get_baseP, L.get_consP, L.get_setP, L.get_nilP, tbit_eqP, kept_true, kept_false, A.keep_put, A.keep_base, A.flush_put, A.flush_base, putA_some, putA_none, argsA_cons, argsA_nil, toC_vc, toC_c, toW_vc, toW_w, toI_vc, toI_c, toB_vc, toB_c, toP_vc, toP_c, opC_tmp, opW_tmp, opI_tmp, opP_tmp, opC_int, opW_int, opI_int, opW_bool, opC_bool, opW_nils, opW_nilp, opC_nils, opW_str, rBin_eq, rUn_eq, rPick_eq, rLen_eq, rIndexAddr_eq, rFieldAddr_eq, rLoad_eq, aAppend_eq, aApp_eq, aStore_eq, retU_some, retCS_ok, retW_some, retC_some, b_lss, b_leq, b_gtr, b_geq, b_eql, b_neq, b_add, b_sub, b_mul, b_seql, b_sneq, u_not, goR_nm, goR_ret, resOf_nil, resOf_cons, resOne_tmp, tupOf_one, guardOk_eq, boolIs_t, boolIs_f, boolIs_t', boolIs_f', boolIs_skip, nBox_eq, rExtract_eq, resOne_cell, tupOf_two, cells_c, cells_agg, true_implies, false_implies, and_true, true_and, Bool.not_false, Bool.not_true, Bool.true_eq_false, Bool.false_eq_true, decide_eq_true_eq, decide_eq_false_iff_not, Bool.not_eq_true', Bool.not_eq_false', decide_true, decide_false, Nat.reduceShiftRight, Nat.reduceMod, Nat.reduceEqDiff, Nat.reduceAdd, ↓reduceIte, reduceCtorEq, List.getElem?_cons_zero, List.getElem?_cons_succ, g3, k3, g7, k7, nBuildSlice_eq, partsOf_cons, partsOf_nil, bS63_1, us63, happ]
    have hc5 : ∀ b o n cap z, c' = .sl b o n cap z → p < b := fun b o n cap z h => by
      rcases hc4 b o n cap z h with ⟨_, h2⟩ | h2
      · cases h2
      · omega
    have it4 : s4.h.get p = some (.iter (Str.ofL v) (i + (dec (Str.ofL v) i).2)) := by
      rw [kp4.2 p (by omega) (fun b o n cap z h => by have := hne b o n cap z h; omega)]; exact it3
    refine ⟨_, ?_, i + (dec (Str.ofL v) i).2, dn ++ [r], c', rfl, ⟨?_, ?_⟩, ⟨?_, ?_⟩, it4, ?_, ?_, hc5, f', ?_, ?_⟩
    case refine_7 => rw [List.map_append]; exact sl4
    case refine_6 => have := kp4.1; omega
    case refine_8 => rw [hf]; simp
    case refine_9 => omega
    all_goals first | (simp only [opnd_tmp, opnd_int, opnd_bool, opnd_nils, opnd_nilp, opnd_str, A.get_putP, A.get_baseP, L.get_consP, L.get_setP, L.get_nilP, tbit_eqP, kept_true, kept_false, A.keep_put, A.keep_base, A.flush_put, A.flush_base, putA_some, putA_none, argsA_cons, argsA_nil, toC_vc, toC_c, toW_vc, toW_w, toI_vc, toI_c, toB_vc, toB_c, toP_vc, toP_c, opC_tmp, opW_tmp, opI_tmp, opP_tmp, opC_int, opW_int, opI_int, opW_bool, opC_bool, opW_nils, opW_nilp, opC_nils, opW_str, cells_c, cells_agg, Bool.not_false, Bool.not_true, Bool.true_eq_false, Bool.false_eq_true, decide_eq_true_eq, decide_eq_false_iff_not, Bool.not_eq_true', Bool.not_eq_false', decide_true, decide_false, Nat.reduceShiftRight, Nat.reduceMod, Nat.reduceEqDiff, Nat.reduceAdd, ↓reduceIte, reduceCtorEq, List.getElem?_cons_zero, List.getElem?_cons_succ, g3, k3, g7, k7]; done) | omega
  · have hnext := next_end hi (by rw [hlen]; exact hlt)
    have hend : rl (Str.ofL v) f i = [] := by
      cases f with
      | zero => rfl
      | succ f => unfold rl; rw [hlen, if_neg hlt]
    rw [hend, List.append_nil] at hf
    rw [hf] at hK
    simp only [go_seq, go_region, go_move, go_assign, go_len, go_binOp, go_block, go_scope, go_label, go_skip, go_exit, go_ret, go_ops_nil, go_load, go_fieldAddr, go_unOp, go_pick, go_indexAddr, go_slice, go_append, go_alloc, go_box, go_store, go_buildSlice, go_index, go_field, go_extract, go_build, go_nilCheck, go_lookup, go_mapUpdate, go_b, go_nil, goE_nil, goE_nm, goE_ex_c, goE_ret_c, goE_ex_b, goE_ret_b, go_guard, go_lookup, go_mapUpdate, go_cond, goB_tt, goB_ff, goG_tt, goG_ff, goO_some, goV_ok, goN_some, goV_okR, opnd_tmp, opnd_int, opnd_bool, opnd_nils, opnd_nilp, opnd_str, A.get_putP, A.get_baseP, L.get_consP, L.get_setP, L.get_nilP, tbit_eqP, kept_true, kept_false, A.keep_put, A.keep_base, A.flush_put, A.flush_base, putA_some, putA_none, argsA_cons, argsA_nil, toC_vc, toC_c, toW_vc, toW_w, toI_vc, toI_c, toB_vc, toB_c, toP_vc, toP_c, opC_tmp, opW_tmp, opI_tmp, opP_tmp, opC_int, opW_int, opI_int, opW_bool, opC_bool, opW_nils, opW_nilp, opC_nils, opW_str, rBin_eq, rUn_eq, rPick_eq, rLen_eq, rIndexAddr_eq, rFieldAddr_eq, rLoad_eq, aAppend_eq, aApp_eq, aStore_eq, retU_some, retCS_ok, retW_some, retC_some, b_lss, b_leq, b_gtr, b_geq, b_eql, b_neq, b_add, b_sub, b_mul, b_seql, b_sneq, u_not, goR_nm, goR_ret, resOf_nil, resOf_cons, resOne_tmp, tupOf_one, guardOk_eq, boolIs_t, boolIs_f, boolIs_t', boolIs_f', boolIs_skip, nBox_eq, rExtract_eq, resOne_cell, tupOf_two, cells_c, cells_agg, true_implies, false_implies, and_true, true_and, Bool.not_false, Bool.not_true, Bool.true_eq_false, Bool.false_eq_true, decide_eq_true_eq, decide_eq_false_iff_not, Bool.not_eq_true', Bool.not_eq_false', decide_true, decide_false, Nat.reduceShiftRight, Nat.reduceMod, Nat.reduceEqDiff, Nat.reduceAdd, ↓reduceIte, reduceCtorEq, List.getElem?_cons_zero, List.getElem?_cons_succ, g3, k3, g7, k7, go_next, aNext_eq, hnext, hres]
    exact hK _ _ hsl
end Ws
