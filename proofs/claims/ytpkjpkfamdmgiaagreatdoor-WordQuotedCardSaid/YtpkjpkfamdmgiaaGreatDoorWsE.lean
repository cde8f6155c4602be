import Derived.Test.YtpkjpkfamdmgiaaGreatDoorWsD
namespace Ws
open Go Go.Proofs Ev
set_option linter.unusedVariables false
set_option linter.unusedSimpArgs false
set_option linter.unnecessarySimpa false
set_option maxRecDepth 100000
theorem st80 (X : T Ext) (s : St) (b o : Nat) (w : W) : store (En X) 80 s b o w = if w.cells.length = 4 then writeL s b o w.cells else none := store_of (tab80 X) tis80 s b o w
theorem st65 (X : T Ext) (s : St) (b o : Nat) (w : W) : store (En X) 65 s b o w = if w.cells.length = 2 then writeL s b o w.cells else none := store_of (tab65 X) tis65 s b o w
structure Rn where
  t : List UInt8
  q : Bool
  sp : Bool
def elN (x : Rn) : List D := [.str (Str.ofL x.t), .bool x.q, .bool x.sp, .bool false]
theorem elN_four (l : List Rn) : ∀ x ∈ l.map elN, x.length = 4 := by
  intro x hx
  obtain ⟨r, _, rfl⟩ := List.mem_map.1 hx; rfl
def joinC (l : List Rn) : List (Nat × Bool) := l.flatMap fun x => charsOf x.t x.q
theorem chars_len (v : List UInt8) (q : Bool) : (charsOf v q).length ≤ v.length := by unfold charsOf; rw [List.length_map]; exact runes_len v
theorem join_take {l : List Rn} {i : Nat} {x : Rn} (h : l[i]? = some x) : joinC (l.take (i + 1)) = joinC (l.take i) ++ charsOf x.t x.q := by
  unfold joinC
  rw [List.take_add_one, h]
  simp
theorem join_len : ∀ {l : List Rn}, (∀ x ∈ l, x.t.length ≤ 1000) → (joinC l).length ≤ 1000 * l.length := by
  intro l
  induction l with
  | nil => intro _; simp [joinC]
  | cons x l ih =>
    intro h
    have h1 := h x (by simp)
    have h2 := ih fun y hy => h y (by simp [hy])
    have h3 := chars_len x.t x.q
    unfold joinC at h2 ⊢
    simp only [List.flatMap_cons, List.length_append, List.length_cons] at h2 ⊢
    omega
theorem join37 (X : T Ext) (hX : (En X).ext.get 37 = none) (h29 : (En X).ext.get 29 = some (.fn (ofG RChars) [])) (l : List Rn) (hl : ∀ x ∈ l, x.t.length ≤ 1000) (hn : l.length ≤ 100) (s : St) (K : V → St → Prop) (hK : ∀ c s', SlAt s' c 2 ((joinC l).map elC) → K (vc c) s') :
    goC (En X) 37 [.c (.dat 4 (l.map elN))] s K := by
  refine goC_body hX (kp37 X) (fn37 X) rfl (by kernel_rfl) ?_
  have hres : Tryz.f37.results.toList = [.tmp 2] := rfl
  have hie : IsEls 4 (.sl 4 (l.map elN)) := .inr ⟨_, rfl, elN_four l⟩
  have hlen : ∀ look, len (En X) 50 look (.dat 4 (l.map elN)) = some l.length := fun look => by
    have := len_els (look := look) (us50 X) hie
    rwa [show (els (.sl 4 (l.map elN))).length = l.length from List.length_map _] at this
  simp only [go_seq, go_region, go_move, go_assign, go_len, go_binOp, go_block, go_scope, go_label, go_skip, go_exit, go_ret, go_ops_nil, go_load, go_fieldAddr, go_unOp, go_pick, go_indexAddr, go_slice, go_append, go_alloc, go_box, go_store, go_buildSlice, go_index, go_field, go_extract, go_build, go_nilCheck, go_lookup, go_mapUpdate, go_b, go_nil, goE_nil, goE_nm, goE_ex_c, goE_ret_c, goE_ex_b, goE_ret_b, go_guard, go_lookup, go_mapUpdate, go_cond, goB_tt, goB_ff, goG_tt, goG_ff, goO_some, goV_ok, goN_some, goV_okR, opnd_tmp, opnd_int, opnd_bool, opnd_nils, opnd_nilp, opnd_str, A.get_putP, A.get_baseP, L.get_consP, L.get_setP, L.get_nilP, tbit_eqP, kept_true, kept_false, A.keep_put, A.keep_base, A.flush_put, A.flush_base, putA_some, putA_none, argsA_cons, argsA_nil, toC_vc, toC_c, toW_vc, toW_w, toI_vc, toI_c, toB_vc, toB_c, toP_vc, toP_c, opC_tmp, opW_tmp, opI_tmp, opP_tmp, opC_int, opW_int, opI_int, opW_bool, opC_bool, opW_nils, opW_nilp, opC_nils, opW_str, rBin_eq, rUn_eq, rPick_eq, rLen_eq, rIndexAddr_eq, rFieldAddr_eq, rLoad_eq, aAppend_eq, aApp_eq, aStore_eq, retU_some, retCS_ok, retW_some, retC_some, b_lss, b_leq, b_gtr, b_geq, b_eql, b_neq, b_add, b_sub, b_mul, b_seql, b_sneq, u_not, goR_nm, goR_ret, resOf_nil, resOf_cons, resOne_tmp, tupOf_one, guardOk_eq, boolIs_t, boolIs_f, boolIs_t', boolIs_f', boolIs_skip, nBox_eq, rExtract_eq, resOne_cell, tupOf_two, cells_c, cells_agg, true_implies, false_implies, and_true, true_and, Bool.not_false, Bool.not_true, Bool.true_eq_false, Bool.false_eq_true, decide_eq_true_eq, decide_eq_false_iff_not, Bool.not_eq_true', Bool.not_eq_false', decide_true, decide_false, Nat.reduceShiftRight, Nat.reduceMod, Nat.reduceEqDiff, Nat.reduceAdd, ↓reduceIte, reduceCtorEq, List.getElem?_cons_zero, List.getElem?_cons_succ, hlen]
  generalize hd : C.dat 4 (l.map elN) = dc at *
  refine go_loop (goL_inv (fun n' a' s' => ∃ i c, n' = l.length - i ∧ i ≤ l.length ∧ Has a' 3 (vc c) ∧ Has a' 6 (vc dc) ∧ Has a' 7 (vc (.int .i64 (Int.ofNat l.length))) ∧ Has a' 8 (vc (.int .i64 (Int.ofNat i))) ∧ SlAt s' c 2 ((joinC (l.take i)).map elC)) (n := l.length)
    ⟨0, .nils, rfl, Nat.zero_le _, ⟨rfl, rfl⟩, ⟨rfl, rfl⟩, ⟨rfl, rfl⟩, ⟨rfl, rfl⟩, by simpa [joinC] using SlAt.nil _ 2⟩ ?_)
  rintro n' a' s' ⟨i, c, rfl, hi, ⟨g3, k3⟩, ⟨g6, k6⟩, ⟨g7, k7⟩, ⟨g8, k8⟩, hsl⟩
  by_cases hlt : i < l.length
  · have hlt' : (Int.ofNat i < Int.ofNat l.length) = True := by simpa using Int.ofNat_lt.2 hlt
    have hsu := nat_succ (show i < 9223372036854775807 by omega)
    obtain ⟨x, hx⟩ : ∃ x, l[i]? = some x := ⟨_, List.getElem?_eq_getElem hlt⟩
    have hxl := hl x (List.mem_of_getElem? hx)
    have hix : indexAddr (En X) 50 dc (Int.ofNat i) = some (.dp (elN x) 0) := by rw [← hd]; exact index_els (us50 X) (sz80 X) hie (getD_map hx)
    have ld : loadD (En X) 80 (elN x) 0 = some (.agg (cellsD (elN x))) := by rw [ld80]; rfl
    obtain ⟨s2, w2, r2, n2, o2⟩ := row_written s' [.str ⟨0, 0⟩, .bool false, .bool false, .bool false] (cellsD (elN x)) rfl
    have c3 : ldHC s2.h.get s'.nx 3 = some (.c (.bool false)) := r2.ldC rfl
    have c0 : ldHC s2.h.get s'.nx 0 = some (.c (.str (Str.ofL x.t))) := r2.ldC rfl
    have c1 : ldHC s2.h.get s'.nx 1 = some (.c (.bool x.q)) := r2.ldC rfl
    have sl2 : SlAt s2 c 2 ((joinC (l.take i)).map elC) := by
      obtain ⟨h1, h2⟩ := hsl
      refine ⟨h1, h2.imp id ?_⟩
      rintro ⟨b, sh, anc, h3, h4, h5, h6⟩
      exact ⟨b, sh, anc, h3, by rw [o2 b h6]; exact h4, h5, by omega⟩
    have hcall := callR_chars h29 x.t x.q hxl s2
    have hcl := chars_len x.t x.q
    have hjl : (joinC (l.take i)).length ≤ 1000 * 100 := Nat.le_trans (join_len fun y hy => hl y (List.mem_of_mem_take hy)) (by rw [List.length_take]; omega)
    obtain ⟨c', s4, happ, sl4, kp4, hc4⟩ := app_cells (y := (slD 2 ((charsOf x.t x.q).map elC)).toC) (l := (charsOf x.t x.q).map elC) (el40 X) (by rw [ti65.1]; exact sl2) (by rw [ti65.1]; exact elC_two _) (by rw [ti65.1]; decide)
      (by rw [ti65.1]; have := newCells_els (look := s2.h.get) (isEls_slD (elC_two (charsOf x.t x.q))); rwa [els_slD] at this) (by rw [ti65.2]; have : maxBytes = 140737488355328 := rfl; simp only [List.length_map]; omega)
    rw [ti65.1, ← List.map_append, ← join_take hx] at sl4
    simp only [go_seq, go_region, go_move, go_assign, go_len, go_binOp, go_block, go_scope, go_label, go_skip, go_exit, go_ret, go_ops_nil, go_load, go_fieldAddr, go_unOp, go_pick, go_indexAddr, go_slice, go_append, go_alloc, go_box, go_store, go_buildSlice, go_index, go_field, go_extract, go_build, go_nilCheck, go_lookup, go_mapUpdate, go_b, go_nil, goE_nil, goE_nm, goE_ex_c, goE_ret_c, goE_ex_b, goE_ret_b, go_guard, go_lookup, go_mapUpdate, go_cond, goB_tt, goB_ff, goG_tt, goG_ff, goO_some, goV_ok, goN_some, goV_okR, opnd_tmp, opnd_int, opnd_bool, opnd_nils, opnd_nilp, opnd_str, A.get_putP, A.get_baseP, L.get_consP, L.get_setP, L.get_nilP, tbit_eqP, kept_true, kept_false, A.keep_put, A.keep_base, A.flush_put, A.flush_base, putA_some, putA_none, argsA_cons, argsA_nil, toC_vc, toC_c, toW_vc, toW_w, toI_vc, toI_c, toB_vc, toB_c, toP_vc, toP_c, opC_tmp, opW_tmp, opI_tmp, opP_tmp, opC_int, opW_int, opI_int, opW_bool, opC_bool, opW_nils, opW_nilp, opC_nils, opW_str, rBin_eq, rUn_eq, rPick_eq, rLen_eq, rIndexAddr_eq, rFieldAddr_eq, rLoad_eq, aAppend_eq, aApp_eq, aStore_eq, retU_some, retCS_ok, retW_some, retC_some, b_lss, b_leq, b_gtr, b_geq, b_eql, b_neq, b_add, b_sub, b_mul, b_seql, b_sneq, u_not, goR_nm, goR_ret, resOf_nil, resOf_cons, resOne_tmp, tupOf_one, guardOk_eq, boolIs_t, boolIs_f, boolIs_t', boolIs_f', boolIs_skip, nBox_eq, rExtract_eq, resOne_cell, tupOf_two, cells_c, cells_agg, true_implies, false_implies, and_true, true_and, Bool.not_false, Bool.not_true, Bool.true_eq_false, Bool.false_eq_true, decide_eq_true_eq, decide_eq_false_iff_not, Bool.not_eq_true', Bool.not_eq_false', decide_true, decide_false, Nat.reduceShiftRight, Nat.reduceMod, Nat.reduceEqDiff, Nat.reduceAdd, ↓reduceIte, reduceCtorEq, List.getElem?_cons_zero, List.getElem?_cons_succ, g3, k3, g6, k6, g7, k7, g8, k8, hlt', hix, ld, al80, st80, show (cellsD (elN x)).length = 4 from rfl, w2, fA_80_3, fA_80_0, fA_80_1, ldh4, ldh9, c3, c0, c1]
    refine go_call _ _ _ _ _ _ (ws := [.c (.str (Str.ofL x.t)), .c (.bool x.q)]) rfl (by simp only [opnd_tmp, opnd_int, opnd_bool, opnd_nils, opnd_nilp, opnd_str, A.get_putP, A.get_baseP, L.get_consP, L.get_setP, L.get_nilP, tbit_eqP, kept_true, kept_false, A.keep_put, A.keep_base, A.flush_put, A.flush_base, putA_some, putA_none, argsA_cons, argsA_nil, toC_vc, toC_c, toW_vc, toW_w, toI_vc, toI_c, toB_vc, toB_c, toP_vc, toP_c, opC_tmp, opW_tmp, opI_tmp, opP_tmp, opC_int, opW_int, opI_int, opW_bool, opC_bool, opW_nils, opW_nilp, opC_nils, opW_str, cells_c, cells_agg, Bool.not_false, Bool.not_true, Bool.true_eq_false, Bool.false_eq_true, decide_eq_true_eq, decide_eq_false_iff_not, Bool.not_eq_true', Bool.not_eq_false', decide_true, decide_false, Nat.reduceShiftRight, Nat.reduceMod, Nat.reduceEqDiff, Nat.reduceAdd, ↓reduceIte, reduceCtorEq, List.getElem?_cons_zero, List.getElem?_cons_succ, argsOf_cons, argsOf_nil]) ?_
    refine goC_of hcall ?_
    simp only [go_seq, go_region, go_move, go_assign, go_len, go_binOp, go_block, go_scope, go_label, go_skip, go_exit, go_ret, go_ops_nil, go_load, go_fieldAddr, go_unOp, go_pick, go_indexAddr, go_slice, go_append, go_alloc, go_box, go_store, go_buildSlice, go_index, go_field, go_extract, go_build, go_nilCheck, go_lookup, go_mapUpdate, go_b, go_nil, goE_nil, goE_nm, goE_ex_c, goE_ret_c, goE_ex_b, goE_ret_b, go_guard, go_lookup, go_mapUpdate, go_cond, goB_tt, goB_ff, goG_tt, goG_ff, goO_some, goV_ok, goN_some, goV_okR, opnd_tmp, opnd_int, opnd_bool, opnd_nils, opnd_nilp, opnd_str, A.get_putP, A.get_baseP, L.get_consP, L.get_setP, L.get_nilP, tbit_eqP, kept_true, kept_false, A.keep_put, A.keep_base, A.flush_put, A.flush_base, putA_some, putA_none, argsA_cons, argsA_nil, toC_vc, toC_c, toW_vc, toW_w, toI_vc, toI_c, toB_vc, toB_c, toP_vc, toP_c, opC_tmp, opW_tmp, opI_tmp, opP_tmp, opC_int, opW_int, opI_int, opW_bool, opC_bool, opW_nils, opW_nilp, opC_nils, opW_str, rBin_eq, rUn_eq, rPick_eq, rLen_eq, rIndexAddr_eq, rFieldAddr_eq, rLoad_eq, aAppend_eq, aApp_eq, aStore_eq, retU_some, retCS_ok, retW_some, retC_some, b_lss, b_leq, b_gtr, b_geq, b_eql, b_neq, b_add, b_sub, b_mul, b_seql, b_sneq, u_not, goR_nm, goR_ret, resOf_nil, resOf_cons, resOne_tmp, tupOf_one, guardOk_eq, boolIs_t, boolIs_f, boolIs_t', boolIs_f', boolIs_skip, nBox_eq, rExtract_eq, resOne_cell, tupOf_two, cells_c, cells_agg, true_implies, false_implies, and_true, true_and, Bool.not_false, Bool.not_true, Bool.true_eq_false, Bool.false_eq_true, decide_eq_true_eq, decide_eq_false_iff_not, Bool.not_eq_true', Bool.not_eq_false', decide_true, decide_false, Nat.reduceShiftRight, Nat.reduceMod, Nat.reduceEqDiff, Nat.reduceAdd, ↓reduceIte, reduceCtorEq, List.getElem?_cons_zero, List.getElem?_cons_succ, g3, k3, g6, k6, g7, k7, g8, k8, us40, happ, hsu]
    refine ⟨_, ?_, i + 1, c', rfl, hlt, ⟨?_, ?_⟩, ⟨?_, ?_⟩, ⟨?_, ?_⟩, ⟨?_, ?_⟩, sl4⟩
    all_goals first | (simp only [opnd_tmp, opnd_int, opnd_bool, opnd_nils, opnd_nilp, opnd_str, A.get_putP, A.get_baseP, L.get_consP, L.get_setP, L.get_nilP, tbit_eqP, kept_true, kept_false, A.keep_put, A.keep_base, A.flush_put, A.flush_base, putA_some, putA_none, argsA_cons, argsA_nil, toC_vc, toC_c, toW_vc, toW_w, toI_vc, toI_c, toB_vc, toB_c, toP_vc, toP_c, opC_tmp, opW_tmp, opI_tmp, opP_tmp, opC_int, opW_int, opI_int, opW_bool, opC_bool, opW_nils, opW_nilp, opC_nils, opW_str, cells_c, cells_agg, Bool.not_false, Bool.not_true, Bool.true_eq_false, Bool.false_eq_true, decide_eq_true_eq, decide_eq_false_iff_not, Bool.not_eq_true', Bool.not_eq_false', decide_true, decide_false, Nat.reduceShiftRight, Nat.reduceMod, Nat.reduceEqDiff, Nat.reduceAdd, ↓reduceIte, reduceCtorEq, List.getElem?_cons_zero, List.getElem?_cons_succ, g3, k3, g6, k6, g7, k7, g8, k8]; done) | omega
  · have hlt' : (Int.ofNat i < Int.ofNat l.length) = False := by simpa using fun h => hlt (Int.ofNat_lt.1 h)
    rw [List.take_of_length_le (by omega)] at hsl
    simp only [go_seq, go_region, go_move, go_assign, go_len, go_binOp, go_block, go_scope, go_label, go_skip, go_exit, go_ret, go_ops_nil, go_load, go_fieldAddr, go_unOp, go_pick, go_indexAddr, go_slice, go_append, go_alloc, go_box, go_store, go_buildSlice, go_index, go_field, go_extract, go_build, go_nilCheck, go_lookup, go_mapUpdate, go_b, go_nil, goE_nil, goE_nm, goE_ex_c, goE_ret_c, goE_ex_b, goE_ret_b, go_guard, go_lookup, go_mapUpdate, go_cond, goB_tt, goB_ff, goG_tt, goG_ff, goO_some, goV_ok, goN_some, goV_okR, opnd_tmp, opnd_int, opnd_bool, opnd_nils, opnd_nilp, opnd_str, A.get_putP, A.get_baseP, L.get_consP, L.get_setP, L.get_nilP, tbit_eqP, kept_true, kept_false, A.keep_put, A.keep_base, A.flush_put, A.flush_base, putA_some, putA_none, argsA_cons, argsA_nil, toC_vc, toC_c, toW_vc, toW_w, toI_vc, toI_c, toB_vc, toB_c, toP_vc, toP_c, opC_tmp, opW_tmp, opI_tmp, opP_tmp, opC_int, opW_int, opI_int, opW_bool, opC_bool, opW_nils, opW_nilp, opC_nils, opW_str, rBin_eq, rUn_eq, rPick_eq, rLen_eq, rIndexAddr_eq, rFieldAddr_eq, rLoad_eq, aAppend_eq, aApp_eq, aStore_eq, retU_some, retCS_ok, retW_some, retC_some, b_lss, b_leq, b_gtr, b_geq, b_eql, b_neq, b_add, b_sub, b_mul, b_seql, b_sneq, u_not, goR_nm, goR_ret, resOf_nil, resOf_cons, resOne_tmp, tupOf_one, guardOk_eq, boolIs_t, boolIs_f, boolIs_t', boolIs_f', boolIs_skip, nBox_eq, rExtract_eq, resOne_cell, tupOf_two, cells_c, cells_agg, true_implies, false_implies, and_true, true_and, Bool.not_false, Bool.not_true, Bool.true_eq_false, Bool.false_eq_true, decide_eq_true_eq, decide_eq_false_iff_not, Bool.not_eq_true', Bool.not_eq_false', decide_true, decide_false, Nat.reduceShiftRight, Nat.reduceMod, Nat.reduceEqDiff, Nat.reduceAdd, ↓reduceIte, reduceCtorEq, List.getElem?_cons_zero, List.getElem?_cons_succ, g3, k3, g6, k6, g7, k7, g8, k8, hlt', hres]
    exact hK _ _ hsl
def txS : List Nat → Str → Str
  | [], acc => acc
  | r :: l, acc => txS l (acc.app (enc (Int.ofNat r)))
theorem strOf_txS : ∀ (l : List Nat) (acc : Str), strOfRunes (l.map fun r => C.int .i32 (Int.ofNat r)) acc = some (txS l acc)
  | [], _ => rfl
  | r :: l, acc => strOf_txS l _
theorem encN_len (c : Nat) : (encN c).len ≤ 4 := by
  have key : ∀ (b : Bool) (x y : Str), x.len ≤ 4 → y.len ≤ 4 → (bif b then x else y).len ≤ 4 := by intro b x y h1 h2; cases b <;> assumption
  unfold encN
  exact key _ _ _ (show 1 ≤ 4 by decide) (key _ _ _ (show 2 ≤ 4 by decide) (key _ _ _ (show 3 ≤ 4 by decide) (show 4 ≤ 4 by decide)))
theorem txS_len : ∀ (l : List Nat) (acc : Str), (txS l acc).len ≤ acc.len + 4 * l.length
  | [], acc => by simp [txS]
  | r :: l, acc => by
    have := txS_len l (acc.app (enc (Int.ofNat r)))
    have h2 : (acc.app (enc (Int.ofNat r))).len = acc.len + (enc (Int.ofNat r)).len := rfl
    have h3 : (enc (Int.ofNat r)).len ≤ 4 := encN_len _
    unfold txS
    simp only [List.length_cons]
    omega
theorem uint21 (X : T Ext) : undT (En X) 21 = some (.int .i32) := by kernel_rfl
theorem rConvert_eq (E : Env) (look : Look) (a : A) (s d : Nat) (x : Operand) : rConvert E look a s d x = match opC a x with
  | some c => retC (Ev.convert E s d c look)
  | none => none := rfl
theorem cellsR (l : List Nat) : cellsD (l.map elR).flatten = l.map fun r => C.int .i32 (Int.ofNat r) := by
  induction l with
  | nil => rfl
  | cons r l ih =>
    simp only [List.map_cons, List.flatten_cons, cellsD_append, ih]
    rfl
theorem conv_text (X : T Ext) {s : St} {c : C} {l : List Nat} (h : SlAt s c 1 (l.map elR)) : Ev.convert (En X) 63 9 c s.h.get = some (.str (txS l .nil)) := by
  obtain ⟨h1, h2⟩ := h
  unfold Ev.convert
  rw [us63, ustr9]
  simp only []
  rcases h2 with ⟨rfl, h3⟩ | ⟨b, sh, anc, rfl, h3, h4, h5⟩
  · have : l = [] := by simpa using h3
    subst this
    show strOfSl (En X) (.slice 21) [] = _
    unfold strOfSl
    simp only [uint21]
    rfl
  · show (match readL s.h.get b 0 (l.map elR).length with
      | none => none
      | some l => strOfSl (En X) (.slice 21) l) = _
    have hr : readL s.h.get b 0 (l.map elR).length = some (l.map fun r => C.int .i32 (Int.ofNat r)) := by
      rw [readL_row h3, readR_eq _ _ _ _ _ _ _ (by rw [cellsR]; simp)]
      have : (l.map elR).length = (cellsD (l.map elR).flatten).length := by rw [cellsR]; simp
      rw [this, T.getL_ofL, cellsR]
    rw [hr]
    show strOfSl (En X) (.slice 21) _ = _
    unfold strOfSl
    simp only [uint21]
    rw [strOf_txS]
end Ws
