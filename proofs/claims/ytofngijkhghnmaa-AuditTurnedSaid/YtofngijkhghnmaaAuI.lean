import Derived.Test.YtofngijkhghnmaaAuH
namespace Au
open Go Go.Proofs Ev
set_option linter.unusedVariables false
set_option linter.unusedSimpArgs false
set_option maxRecDepth 100000
def KeysOk (es : List (C × W)) (m : Int) : Prop := ∀ p ∈ es, ∃ k w, p = (.int .i64 k, w) ∧ k ≤ m
theorem findK_cons (k j : Int) (w : W) (es : List (C × W)) : findK (.int .i64 k) ((.int .i64 j, w) :: es) = if k = j then some (some w) else findK (.int .i64 k) es := by
  conv => lhs; unfold findK
  simp only [kEq_self, iEq_eq]
  by_cases h : k = j
  · rw [if_pos h, decide_eq_true h]
  · rw [if_neg h, decide_eq_false h]
theorem findK_gt {m k : Int} (h : m < k) : ∀ es : List (C × W), KeysOk es m → findK (.int .i64 k) es = some none
  | [], _ => rfl
  | p :: es, hk => by
    obtain ⟨j, w, rfl, hj⟩ := hk p (by simp)
    rw [findK_cons, if_neg (by omega)]
    exact findK_gt h es fun q hq => hk q (by simp [hq])
theorem putK_cons (k j : Int) (v w : W) (es : List (C × W)) : putK (.int .i64 k) v ((.int .i64 j, w) :: es) = if k = j then some ((.int .i64 k, v) :: es) else match putK (.int .i64 k) v es with
    | some l => some ((.int .i64 j, w) :: l)
    | none => none := by
  conv => lhs; unfold putK
  simp only [kEq_self, iEq_eq]
  by_cases h : k = j
  · rw [if_pos h, decide_eq_true h]
  · rw [if_neg h, decide_eq_false h]; rfl
theorem putK_ok {m k : Int} (h : m ≤ k) (v : W) : ∀ es : List (C × W), KeysOk es m → ∃ es', putK (.int .i64 k) v es = some es' ∧ KeysOk es' k ∧ findK (.int .i64 k) es' = some (some v)
  | [], _ => ⟨[(.int .i64 k, v)], rfl, fun p hp => by simp at hp; exact ⟨k, v, hp, Int.le_refl _⟩, by rw [findK_cons, if_pos rfl]⟩
  | p :: es, hk => by
    obtain ⟨j, w, rfl, hj⟩ := hk p (by simp)
    by_cases e : k = j
    · subst e
      refine ⟨(.int .i64 k, v) :: es, by rw [putK_cons, if_pos rfl], fun q hq => ?_, by rw [findK_cons, if_pos rfl]⟩
      rcases List.mem_cons.1 hq with rfl | hq
      · exact ⟨k, v, rfl, Int.le_refl _⟩
      · obtain ⟨j', w', e1, e2⟩ := hk q (by simp [hq])
        exact ⟨j', w', e1, by omega⟩
    · obtain ⟨es', h1, h2, h3⟩ := putK_ok h v es fun q hq => hk q (by simp [hq])
      refine ⟨(.int .i64 j, w) :: es', by rw [putK_cons, if_neg e, h1], fun q hq => ?_, by rw [findK_cons, if_neg e]; exact h3⟩
      rcases List.mem_cons.1 hq with rfl | hq
      · exact ⟨j, w, rfl, by omega⟩
      · exact h2 q hq
theorem zero35 : (tiN 35).zero = some [.int .i64 0, .nils, .nils, .str ⟨0, 0⟩] := by kernel_rfl
theorem keyOk3 (X : T Ext) (n : Int) : keyOk (En X) 3 (.int .i64 n) = true := by unfold keyOk; rw [uint3]
theorem lookup46 (X : T Ext) {look : Look} {r : Nat} {es : List (C × W)} (h : look r = some (.map es)) (n : Int) : lookup (En X) 46 (.map r) (.int .i64 n) true look = match findK (.int .i64 n) es with
    | none => none
    | some (some w) => some (.tup [w, .c (.bool true)])
    | some none => some (.tup [.agg [.int .i64 0, .nils, .nils, .str ⟨0, 0⟩], .c (.bool false)]) := by
  unfold lookup
  rw [um46]
  simp only [keyOk3, mapEs, h]
  unfold lookEs
  rw [tab35]
  simp only [zero35]
  cases findK (.int .i64 n) es with
  | none => rfl
  | some o => cases o with
    | none => simp only [lookRes, mkW, tia35]
    | some w => rfl
theorem mapUpdate46 (X : T Ext) {s : St} {r : Nat} {es es' : List (C × W)} (h : s.h.get r = some (.map es)) {n : Int} {v : W} (hp : putK (.int .i64 n) v es = some es') : mapUpdate (En X) 46 (.map r) (.int .i64 n) v s = some ⟨s.h.set r (.map es'), s.nx⟩ := by
  unfold mapUpdate keyIs
  rw [um46]
  simp only [keyOk3, h, hp]
theorem aMap_eq (E : Env) (t : Nat) (a : A) (m k v : Operand) (s : St) : aMap E t a m k v s = match opC a m with
  | none => .no
  | some m => match opC a k with
    | none => .no
    | some k => match opW a v with
      | none => .no
      | some v => retU (mapUpdate E t m k v s) := rfl
theorem rLookup_eq (E : Env) (look : Look) (a : A) (t : Nat) (m k : Operand) (ok : Bool) : rLookup E look a t m k ok = match opC a m with
  | some m => match opC a k with
    | some k => lookup E t m k ok look
    | none => none
  | none => none := rfl
theorem wrap_up {m : Int} (h1 : -9223372036854775808 ≤ m) (h2 : m ≤ 9223372036854775807) : wrapK .i64 (m + 1) = if m = 9223372036854775807 then -9223372036854775808 else m + 1 := by
  rw [wrapK_eq]
  by_cases h : m = 9223372036854775807
  · subst h; rfl
  · rw [if_neg h]
    refine wrap_in _ _ ?_ ?_
    · show -9223372036854775808 ≤ m + 1; omega
    · show m + 1 ≤ 9223372036854775807; omega
/-- the number ahead of place i -/
def lastN (l : List (List D)) (i : Nat) (m : Int) : Prop := (i = 0 ∧ m = -1) ∨ ∃ y, 0 < i ∧ l[i - 1]? = some y ∧ num y = .int .i64 m ∧ 0 ≤ m
theorem steady10 (X : T Ext) (hX : (En X).ext.get 10 = none) (h20 : (En X).ext.get 20 = some (.fn (ofG (RList fun l => l)) [])) (h18 : (En X).ext.get 18 = some (.fn (ofG RSameC) [])) (d : D) (s : St) (hd : Good 6 GoodO d) (hn : (allD (els d)).length ≤ 1000) (K : V → St → Prop)
    (hK : ∀ (t : Bool) s', (t = true ↔ steadyD (allD (els d))) → K (vc (.bool t)) s') : goC (En X) 10 [.c d.toC] s K := by
  refine goC_body hX (kp10 X) (fn10 X) rfl (by kernel_rfl) ?_
  obtain ⟨ga, ea⟩ := good_sl (good_all hd) hn
  simp only [go_seq, go_region, go_move, go_assign, go_len, go_binOp, go_block, go_scope, go_label, go_skip, go_exit, go_ret, go_ops_nil, go_load, go_fieldAddr, go_unOp, go_pick, go_indexAddr, go_slice, go_append, go_alloc, go_box, go_store, go_buildSlice, go_index, go_field, go_extract, go_build, go_nilCheck, go_lookup, go_mapUpdate, go_b, go_nil, goE_nil, goE_nm, goE_ex_c, goE_ret_c, goE_ex_b, goE_ret_b, go_guard, go_lookup, go_mapUpdate, go_cond, goB_tt, goB_ff, goG_tt, goG_ff, goO_some, goV_ok, goN_some, goV_okR, opnd_tmp, opnd_int, opnd_bool, opnd_nils, opnd_nilp, opnd_str, A.get_putP, A.get_baseP, L.get_consP, L.get_setP, L.get_nilP, tbit_eqP, kept_true, kept_false, A.keep_put, A.keep_base, A.flush_put, A.flush_base, putA_some, putA_none, argsA_cons, argsA_nil, toC_vc, toC_c, toW_vc, toW_w, toI_vc, toI_c, toB_vc, toB_c, toP_vc, toP_c, opC_tmp, opW_tmp, opI_tmp, opP_tmp, opC_int, opW_int, opI_int, opW_bool, opC_bool, opW_nils, opW_nilp, opC_nils, opW_str, rBin_eq, rUn_eq, rPick_eq, rLen_eq, rIndexAddr_eq, rFieldAddr_eq, rLoad_eq, aAppend_eq, aApp_eq, aStore_eq, retU_some, retCS_ok, retW_some, retC_some, b_lss, b_leq, b_gtr, b_geq, b_eql, b_neq, b_add, b_sub, b_mul, b_seql, b_sneq, u_not, goR_nm, goR_ret, resOf_nil, resOf_cons, resOne_tmp, tupOf_one, guardOk_eq, boolIs_t, boolIs_f, boolIs_t', boolIs_f', boolIs_skip, nBox_eq, rExtract_eq, resOne_cell, tupOf_two, cells_c, cells_agg, true_implies, false_implies, and_true, true_and, Bool.not_false, Bool.not_true, Bool.true_eq_false, Bool.false_eq_true, decide_eq_true_eq, decide_eq_false_iff_not, Bool.not_eq_true', Bool.not_eq_false', decide_true, decide_false, Nat.reduceShiftRight, Nat.reduceMod, Nat.reduceEqDiff, Nat.reduceAdd, ↓reduceIte, reduceCtorEq, List.getElem?_cons_zero, List.getElem?_cons_succ, go_makeMap]
  refine go_call _ _ _ _ _ _ (ws := [.c d.toC]) rfl (by simp only [opnd_tmp, opnd_int, opnd_bool, opnd_nils, opnd_nilp, opnd_str, A.get_putP, A.get_baseP, L.get_consP, L.get_setP, L.get_nilP, tbit_eqP, kept_true, kept_false, A.keep_put, A.keep_base, A.flush_put, A.flush_base, putA_some, putA_none, argsA_cons, argsA_nil, toC_vc, toC_c, toW_vc, toW_w, toI_vc, toI_c, toB_vc, toB_c, toP_vc, toP_c, opC_tmp, opW_tmp, opI_tmp, opP_tmp, opC_int, opW_int, opI_int, opW_bool, opC_bool, opW_nils, opW_nilp, opC_nils, opW_str, cells_c, cells_agg, Bool.not_false, Bool.not_true, Bool.true_eq_false, Bool.false_eq_true, decide_eq_true_eq, decide_eq_false_iff_not, Bool.not_eq_true', Bool.not_eq_false', decide_true, decide_false, Nat.reduceShiftRight, Nat.reduceMod, Nat.reduceEqDiff, Nat.reduceAdd, ↓reduceIte, reduceCtorEq, List.getElem?_cons_zero, List.getElem?_cons_succ, argsOf_cons, argsOf_nil]) ?_
  refine goC_list h20 hd hn ?_
  have hn := hn
  generalize allD (els d) = l at *
  generalize slD 4 l = b at *
  subst ea
  have hl : ∀ look, len (En X) 25 look b.toC = some (els b).length := fun look => len_els (us25 X) ga.el
  simp only [go_seq, go_region, go_move, go_assign, go_len, go_binOp, go_block, go_scope, go_label, go_skip, go_exit, go_ret, go_ops_nil, go_load, go_fieldAddr, go_unOp, go_pick, go_indexAddr, go_slice, go_append, go_alloc, go_box, go_store, go_buildSlice, go_index, go_field, go_extract, go_build, go_nilCheck, go_lookup, go_mapUpdate, go_b, go_nil, goE_nil, goE_nm, goE_ex_c, goE_ret_c, goE_ex_b, goE_ret_b, go_guard, go_lookup, go_mapUpdate, go_cond, goB_tt, goB_ff, goG_tt, goG_ff, goO_some, goV_ok, goN_some, goV_okR, opnd_tmp, opnd_int, opnd_bool, opnd_nils, opnd_nilp, opnd_str, A.get_putP, A.get_baseP, L.get_consP, L.get_setP, L.get_nilP, tbit_eqP, kept_true, kept_false, A.keep_put, A.keep_base, A.flush_put, A.flush_base, putA_some, putA_none, argsA_cons, argsA_nil, toC_vc, toC_c, toW_vc, toW_w, toI_vc, toI_c, toB_vc, toB_c, toP_vc, toP_c, opC_tmp, opW_tmp, opI_tmp, opP_tmp, opC_int, opW_int, opI_int, opW_bool, opC_bool, opW_nils, opW_nilp, opC_nils, opW_str, rBin_eq, rUn_eq, rPick_eq, rLen_eq, rIndexAddr_eq, rFieldAddr_eq, rLoad_eq, aAppend_eq, aApp_eq, aStore_eq, retU_some, retCS_ok, retW_some, retC_some, b_lss, b_leq, b_gtr, b_geq, b_eql, b_neq, b_add, b_sub, b_mul, b_seql, b_sneq, u_not, goR_nm, goR_ret, resOf_nil, resOf_cons, resOne_tmp, tupOf_one, guardOk_eq, boolIs_t, boolIs_f, boolIs_t', boolIs_f', boolIs_skip, nBox_eq, rExtract_eq, resOne_cell, tupOf_two, cells_c, cells_agg, true_implies, false_implies, and_true, true_and, Bool.not_false, Bool.not_true, Bool.true_eq_false, Bool.false_eq_true, decide_eq_true_eq, decide_eq_false_iff_not, Bool.not_eq_true', Bool.not_eq_false', decide_true, decide_false, Nat.reduceShiftRight, Nat.reduceMod, Nat.reduceEqDiff, Nat.reduceAdd, ↓reduceIte, reduceCtorEq, List.getElem?_cons_zero, List.getElem?_cons_succ, hl]
  refine go_loop (goL_inv (fun n a s' => ∃ i m es, n = (els b).length - i ∧ i ≤ (els b).length ∧ Has a 11 (vc b.toC) ∧ Has a 12 (vc (.int .i64 (Int.ofNat (els b).length))) ∧ Has a 13 (vc (.int .i64 (Int.ofNat i))) ∧ Has a 3 (vc (.map s.nx)) ∧ Has a 4 (vc (.int .i64 m)) ∧
      s'.h.get s.nx = some (.map es) ∧ s.nx < s'.nx ∧ KeysOk es m ∧ lastN (els b) i m ∧ (∀ y, 0 < i → (els b)[i - 1]? = some y → findK (.int .i64 m) es = some (some (.agg (cellsD y)))) ∧ -1 ≤ m ∧ m ≤ 9223372036854775807 ∧
      ∀ j x, j < i → (els b)[j]? = some x → (j = 0 → num x = .int .i64 0) ∧ ∀ y, 0 < j → (els b)[j - 1]? = some y → ∃ n m, num x = .int .i64 n ∧ num y = .int .i64 m ∧ ((n = m ∧ SameC x y) ∨ (1 ≤ n ∧ n - 1 = m))) (n := (els b).length)
    ⟨0, -1, [], rfl, Nat.zero_le _, ⟨rfl, rfl⟩, ⟨rfl, rfl⟩, ⟨rfl, rfl⟩, ⟨rfl, rfl⟩, ⟨rfl, rfl⟩, by rw [St.new_h]; exact if_pos rfl, by rw [St.new_nx]; omega, (fun p hp => by cases hp), .inl ⟨rfl, rfl⟩, fun y h => absurd h (by omega), by omega, by omega, fun j x h => by omega⟩ ?_)
  rintro n a s' ⟨i, m, es, rfl, hi, ⟨g11, k11⟩, ⟨g12, k12⟩, ⟨g13, k13⟩, ⟨g3, k3⟩, ⟨g4, k4⟩, hmap, hmx, hkeys, hlast, hfind, hm1, hm2, hok⟩
  by_cases hlt : i < (els b).length
  · obtain ⟨x, hx⟩ : ∃ x, (els b)[i]? = some x := ⟨_, List.getElem?_eq_getElem hlt⟩
    have hix := index_els (us25 X) (sz35 X) ga.el hx
    have hgx := ga.all x (List.mem_of_getElem? hx)
    obtain ⟨nx, avx, vsx, inx, rfl, hav, hvs, hn1, hn2⟩ := id hgx
    have hsu := i64_1000 hlt hn
    obtain ⟨s1, w1, r1, n1, o1⟩ := row_written s' [.int .i64 0, .nils, .nils, .str ⟨0, 0⟩] [.int .i64 nx, avx.toC, vsx.toC, .str (Str.ofL inx)] rfl
    have l1 := r1.ldC (o := 0) rfl
    have hmap1 : s1.h.get s.nx = some (.map es) := by rw [o1 _ hmx]; exact hmap
    have bad : (i = 0 → nx ≠ 0) → (∀ y m', 0 < i → (els b)[i - 1]? = some y → num y = .int .i64 m' → m' = m → ¬ ((nx = m ∧ SameC [.int .i64 nx, avx, vsx, .str (Str.ofL inx)] y) ∨ (1 ≤ nx ∧ nx - 1 = m))) → ¬ steadyD (els b) := by
      intro h0 h1 h2
      obtain ⟨c1, c2⟩ := h2 i _ hx
      rcases hlast with ⟨e, _⟩ | ⟨y, hpos, hy, hyn, _⟩
      · have := c1 e
        exact h0 e (by simpa [num] using this)
      · obtain ⟨n', m', e1, e2, e3⟩ := c2 y hpos hy
        have e1 : D.int .i64 nx = D.int .i64 n' := e1
        rw [hyn] at e2
        have e1 := (D.int.inj e1).2
        have e2 := (D.int.inj e2).2
        subst e1 e2
        exact h1 y m hpos hy hyn rfl e3
    have next : (i = 0 → nx = 0) → (∀ y, 0 < i → (els b)[i - 1]? = some y → ∃ n m, num [.int .i64 nx, avx, vsx, .str (Str.ofL inx)] = .int .i64 n ∧ num y = .int .i64 m ∧ ((n = m ∧ SameC [.int .i64 nx, avx, vsx, .str (Str.ofL inx)] y) ∨ (1 ≤ n ∧ n - 1 = m))) →
        ∀ j x, j < i + 1 → (els b)[j]? = some x → (j = 0 → num x = .int .i64 0) ∧ ∀ y, 0 < j → (els b)[j - 1]? = some y → ∃ n m, num x = .int .i64 n ∧ num y = .int .i64 m ∧ ((n = m ∧ SameC x y) ∨ (1 ≤ n ∧ n - 1 = m)) := by
      intro hh1 hh2 j x hj hjx
      rcases Nat.lt_or_ge j i with g | g
      · exact hok j x g hjx
      · have : j = i := by omega
        subst this
        rw [hx] at hjx; cases hjx
        exact ⟨fun h => by show D.int .i64 nx = _; rw [hh1 h], hh2⟩
    -- behind the map's store
    have tail : ∀ (es2 : List (C × W)), findK (.int .i64 nx) es2 = some (some (.agg (cellsD [.int .i64 nx, avx, vsx, .str (Str.ofL inx)]))) → 0 ≤ nx →
        lastN (els b) (i + 1) nx ∧ (∀ y, 0 < i + 1 → (els b)[i + 1 - 1]? = some y → findK (.int .i64 nx) es2 = some (some (.agg (cellsD y)))) := by
      intro es2 q4 q5
      exact ⟨.inr ⟨_, by omega, hx, rfl, q5⟩, fun y _ hy => by rw [show i + 1 - 1 = i by omega, hx] at hy; cases hy; exact q4⟩
    by_cases hq : nx = m
    · subst hq
      rcases hlast with ⟨e0, e1⟩ | ⟨y, hpos, hy, hyn, hm0⟩
      · subst e1
        simp only [go_seq, go_region, go_move, go_assign, go_len, go_binOp, go_block, go_scope, go_label, go_skip, go_exit, go_ret, go_ops_nil, go_load, go_fieldAddr, go_unOp, go_pick, go_indexAddr, go_slice, go_append, go_alloc, go_box, go_store, go_buildSlice, go_index, go_field, go_extract, go_build, go_nilCheck, go_lookup, go_mapUpdate, go_b, go_nil, goE_nil, goE_nm, goE_ex_c, goE_ret_c, goE_ex_b, goE_ret_b, go_guard, go_lookup, go_mapUpdate, go_cond, goB_tt, goB_ff, goG_tt, goG_ff, goO_some, goV_ok, goN_some, goV_okR, opnd_tmp, opnd_int, opnd_bool, opnd_nils, opnd_nilp, opnd_str, A.get_putP, A.get_baseP, L.get_consP, L.get_setP, L.get_nilP, tbit_eqP, kept_true, kept_false, A.keep_put, A.keep_base, A.flush_put, A.flush_base, putA_some, putA_none, argsA_cons, argsA_nil, toC_vc, toC_c, toW_vc, toW_w, toI_vc, toI_c, toB_vc, toB_c, toP_vc, toP_c, opC_tmp, opW_tmp, opI_tmp, opP_tmp, opC_int, opW_int, opI_int, opW_bool, opC_bool, opW_nils, opW_nilp, opC_nils, opW_str, rBin_eq, rUn_eq, rPick_eq, rLen_eq, rIndexAddr_eq, rFieldAddr_eq, rLoad_eq, aAppend_eq, aApp_eq, aStore_eq, retU_some, retCS_ok, retW_some, retC_some, b_lss, b_leq, b_gtr, b_geq, b_eql, b_neq, b_add, b_sub, b_mul, b_seql, b_sneq, u_not, goR_nm, goR_ret, resOf_nil, resOf_cons, resOne_tmp, tupOf_one, guardOk_eq, boolIs_t, boolIs_f, boolIs_t', boolIs_f', boolIs_skip, nBox_eq, rExtract_eq, resOne_cell, tupOf_two, cells_c, cells_agg, true_implies, false_implies, and_true, true_and, Bool.not_false, Bool.not_true, Bool.true_eq_false, Bool.false_eq_true, decide_eq_true_eq, decide_eq_false_iff_not, Bool.not_eq_true', Bool.not_eq_false', decide_true, decide_false, Nat.reduceShiftRight, Nat.reduceMod, Nat.reduceEqDiff, Nat.reduceAdd, ↓reduceIte, reduceCtorEq, List.getElem?_cons_zero, List.getElem?_cons_succ, g11, k11, g12, k12, g13, k13, g3, k3, g4, k4, lt_true hlt, hix, hsu, ld35, ldA, cellsD_cons, cellsD_nil, toC_int, toC_strD, List.drop_zero, List.take_succ_cons, List.take_zero, List.length_cons, List.length_nil, Nat.zero_add, Nat.le_refl, al35, st35, w1, fA_35_0, ldh3, ldh35, l1, eq_self, show ((-1 : Int) < 0) = True from eq_true (by decide)]
        exact hK false _ ⟨(fun h => by cases h), fun h => absurd h (bad (fun _ => by decide) fun y m' h => absurd h (by omega))⟩
      · have hneg : (nx < (0 : Int)) = False := eq_false (by omega)
        have hgy := ga.all y (List.mem_of_getElem? hy)
        obtain ⟨ny, avy, vsy, iny, rfl, hav2, hvs2, _⟩ := id hgy
        have hyn : D.int .i64 ny = D.int .i64 nx := hyn
        have := (D.int.inj hyn).2
        subst this
        have hf := hfind _ hpos hy
        simp only [cellsD_cons, cellsD_nil, toC_int, toC_strD] at hf
        have hlk := fun look h => lookup46 X (look := look) (r := s.nx) (es := es) h ny
        simp only [hf] at hlk
        obtain ⟨s2, w2, r2, n2, o2⟩ := row_written s1 [.int .i64 0, .nils, .nils, .str ⟨0, 0⟩] [.int .i64 ny, avy.toC, vsy.toC, .str (Str.ofL iny)] rfl
        have l2 : ldHA 4 s2.h.get s1.nx 0 = some (.agg [.int .i64 ny, avy.toC, vsy.toC, .str (Str.ofL iny)]) := r2.ldA
        have r1' : LRow s2 s'.nx [.int .i64 ny, avx.toC, vsx.toC, .str (Str.ofL inx)] := r1.keep (o2 _ (by omega))
        have l3 : ldHA 4 s2.h.get s'.nx 0 = some (.agg [.int .i64 ny, avx.toC, vsx.toC, .str (Str.ofL inx)]) := r1'.ldA
        have l4 := r1'.ldC (o := 0) rfl
        have hmap2 : s2.h.get s.nx = some (.map es) := by rw [o2 _ (by omega)]; exact hmap1
        obtain ⟨es2, p1, p2, p3⟩ := putK_ok (Int.le_refl ny) (.agg (cellsD [.int .i64 ny, avx, vsx, .str (Str.ofL inx)])) es hkeys
        have hup := mapUpdate46 X hmap2 p1
        simp only [cellsD_cons, cellsD_nil, toC_int, toC_strD] at hup
        obtain ⟨t, ht⟩ : ∃ t : Bool, t = true ↔ SameC [.int .i64 ny, avy, vsy, .str (Str.ofL iny)] [.int .i64 ny, avx, vsx, .str (Str.ofL inx)] := by
          by_cases h : SameC [.int .i64 ny, avy, vsy, .str (Str.ofL iny)] [.int .i64 ny, avx, vsx, .str (Str.ofL inx)]
          · exact ⟨true, by simp [h]⟩
          · exact ⟨false, by simp [h]⟩
        simp only [go_seq, go_region, go_move, go_assign, go_len, go_binOp, go_block, go_scope, go_label, go_skip, go_exit, go_ret, go_ops_nil, go_load, go_fieldAddr, go_unOp, go_pick, go_indexAddr, go_slice, go_append, go_alloc, go_box, go_store, go_buildSlice, go_index, go_field, go_extract, go_build, go_nilCheck, go_lookup, go_mapUpdate, go_b, go_nil, goE_nil, goE_nm, goE_ex_c, goE_ret_c, goE_ex_b, goE_ret_b, go_guard, go_lookup, go_mapUpdate, go_cond, goB_tt, goB_ff, goG_tt, goG_ff, goO_some, goV_ok, goN_some, goV_okR, opnd_tmp, opnd_int, opnd_bool, opnd_nils, opnd_nilp, opnd_str, A.get_putP, A.get_baseP, L.get_consP, L.get_setP, L.get_nilP, tbit_eqP, kept_true, kept_false, A.keep_put, A.keep_base, A.flush_put, A.flush_base, putA_some, putA_none, argsA_cons, argsA_nil, toC_vc, toC_c, toW_vc, toW_w, toI_vc, toI_c, toB_vc, toB_c, toP_vc, toP_c, opC_tmp, opW_tmp, opI_tmp, opP_tmp, opC_int, opW_int, opI_int, opW_bool, opC_bool, opW_nils, opW_nilp, opC_nils, opW_str, rBin_eq, rUn_eq, rPick_eq, rLen_eq, rIndexAddr_eq, rFieldAddr_eq, rLoad_eq, aAppend_eq, aApp_eq, aStore_eq, retU_some, retCS_ok, retW_some, retC_some, b_lss, b_leq, b_gtr, b_geq, b_eql, b_neq, b_add, b_sub, b_mul, b_seql, b_sneq, u_not, goR_nm, goR_ret, resOf_nil, resOf_cons, resOne_tmp, tupOf_one, guardOk_eq, boolIs_t, boolIs_f, boolIs_t', boolIs_f', boolIs_skip, nBox_eq, rExtract_eq, resOne_cell, tupOf_two, cells_c, cells_agg, true_implies, false_implies, and_true, true_and, Bool.not_false, Bool.not_true, Bool.true_eq_false, Bool.false_eq_true, decide_eq_true_eq, decide_eq_false_iff_not, Bool.not_eq_true', Bool.not_eq_false', decide_true, decide_false, Nat.reduceShiftRight, Nat.reduceMod, Nat.reduceEqDiff, Nat.reduceAdd, ↓reduceIte, reduceCtorEq, List.getElem?_cons_zero, List.getElem?_cons_succ, g11, k11, g12, k12, g13, k13, g3, k3, g4, k4, lt_true hlt, hix, hsu, ld35, ldA, cellsD_cons, cellsD_nil, toC_int, toC_strD, List.drop_zero, List.take_succ_cons, List.take_zero, List.length_cons, List.length_nil, Nat.zero_add, Nat.le_refl, al35, st35, w1, fA_35_0, ldh3, ldh35, l1, eq_self, hneg, rLookup_eq, hlk _ hmap1, w2, l2, l3]
        refine go_call _ _ _ _ _ _ (ws := [.agg (cellsD [.int .i64 ny, avy, vsy, .str (Str.ofL iny)]), .agg (cellsD [.int .i64 ny, avx, vsx, .str (Str.ofL inx)])]) rfl (by simp only [opnd_tmp, opnd_int, opnd_bool, opnd_nils, opnd_nilp, opnd_str, A.get_putP, A.get_baseP, L.get_consP, L.get_setP, L.get_nilP, tbit_eqP, kept_true, kept_false, A.keep_put, A.keep_base, A.flush_put, A.flush_base, putA_some, putA_none, argsA_cons, argsA_nil, toC_vc, toC_c, toW_vc, toW_w, toI_vc, toI_c, toB_vc, toB_c, toP_vc, toP_c, opC_tmp, opW_tmp, opI_tmp, opP_tmp, opC_int, opW_int, opI_int, opW_bool, opC_bool, opW_nils, opW_nilp, opC_nils, opW_str, cells_c, cells_agg, Bool.not_false, Bool.not_true, Bool.true_eq_false, Bool.false_eq_true, decide_eq_true_eq, decide_eq_false_iff_not, Bool.not_eq_true', Bool.not_eq_false', decide_true, decide_false, Nat.reduceShiftRight, Nat.reduceMod, Nat.reduceEqDiff, Nat.reduceAdd, ↓reduceIte, reduceCtorEq, List.getElem?_cons_zero, List.getElem?_cons_succ, argsOf_cons, argsOf_nil, cellsD_cons, cellsD_nil, toC_int, toC_strD]) ?_
        refine goC_of (callR_sameC h18 hgy hgx ht) ?_
        cases t with
        | false =>
          simp only [go_seq, go_region, go_move, go_assign, go_len, go_binOp, go_block, go_scope, go_label, go_skip, go_exit, go_ret, go_ops_nil, go_load, go_fieldAddr, go_unOp, go_pick, go_indexAddr, go_slice, go_append, go_alloc, go_box, go_store, go_buildSlice, go_index, go_field, go_extract, go_build, go_nilCheck, go_lookup, go_mapUpdate, go_b, go_nil, goE_nil, goE_nm, goE_ex_c, goE_ret_c, goE_ex_b, goE_ret_b, go_guard, go_lookup, go_mapUpdate, go_cond, goB_tt, goB_ff, goG_tt, goG_ff, goO_some, goV_ok, goN_some, goV_okR, opnd_tmp, opnd_int, opnd_bool, opnd_nils, opnd_nilp, opnd_str, A.get_putP, A.get_baseP, L.get_consP, L.get_setP, L.get_nilP, tbit_eqP, kept_true, kept_false, A.keep_put, A.keep_base, A.flush_put, A.flush_base, putA_some, putA_none, argsA_cons, argsA_nil, toC_vc, toC_c, toW_vc, toW_w, toI_vc, toI_c, toB_vc, toB_c, toP_vc, toP_c, opC_tmp, opW_tmp, opI_tmp, opP_tmp, opC_int, opW_int, opI_int, opW_bool, opC_bool, opW_nils, opW_nilp, opC_nils, opW_str, rBin_eq, rUn_eq, rPick_eq, rLen_eq, rIndexAddr_eq, rFieldAddr_eq, rLoad_eq, aAppend_eq, aApp_eq, aStore_eq, retU_some, retCS_ok, retW_some, retC_some, b_lss, b_leq, b_gtr, b_geq, b_eql, b_neq, b_add, b_sub, b_mul, b_seql, b_sneq, u_not, goR_nm, goR_ret, resOf_nil, resOf_cons, resOne_tmp, tupOf_one, guardOk_eq, boolIs_t, boolIs_f, boolIs_t', boolIs_f', boolIs_skip, nBox_eq, rExtract_eq, resOne_cell, tupOf_two, cells_c, cells_agg, true_implies, false_implies, and_true, true_and, Bool.not_false, Bool.not_true, Bool.true_eq_false, Bool.false_eq_true, decide_eq_true_eq, decide_eq_false_iff_not, Bool.not_eq_true', Bool.not_eq_false', decide_true, decide_false, Nat.reduceShiftRight, Nat.reduceMod, Nat.reduceEqDiff, Nat.reduceAdd, ↓reduceIte, reduceCtorEq, List.getElem?_cons_zero, List.getElem?_cons_succ, g11, k11, g12, k12, g13, k13, g3, k3, g4, k4, lt_true hlt, hix, hsu, ld35, ldA, cellsD_cons, cellsD_nil, toC_int, toC_strD, List.drop_zero, List.take_succ_cons, List.take_zero, List.length_cons, List.length_nil, Nat.zero_add, Nat.le_refl, al35, st35, w1, fA_35_0, ldh3, ldh35, l1, eq_self]
          refine hK false _ ⟨(fun h => by cases h), fun h => absurd h (bad (fun h => absurd h (by omega)) fun y m' h1 h2 _ _ h => ?_)⟩
          rw [hy] at h2; cases h2
          rcases h with ⟨_, h⟩ | ⟨_, h⟩
          · have := ht.2 (sameC_symm h); cases this
          · omega
        | true =>
          simp only [go_seq, go_region, go_move, go_assign, go_len, go_binOp, go_block, go_scope, go_label, go_skip, go_exit, go_ret, go_ops_nil, go_load, go_fieldAddr, go_unOp, go_pick, go_indexAddr, go_slice, go_append, go_alloc, go_box, go_store, go_buildSlice, go_index, go_field, go_extract, go_build, go_nilCheck, go_lookup, go_mapUpdate, go_b, go_nil, goE_nil, goE_nm, goE_ex_c, goE_ret_c, goE_ex_b, goE_ret_b, go_guard, go_lookup, go_mapUpdate, go_cond, goB_tt, goB_ff, goG_tt, goG_ff, goO_some, goV_ok, goN_some, goV_okR, opnd_tmp, opnd_int, opnd_bool, opnd_nils, opnd_nilp, opnd_str, A.get_putP, A.get_baseP, L.get_consP, L.get_setP, L.get_nilP, tbit_eqP, kept_true, kept_false, A.keep_put, A.keep_base, A.flush_put, A.flush_base, putA_some, putA_none, argsA_cons, argsA_nil, toC_vc, toC_c, toW_vc, toW_w, toI_vc, toI_c, toB_vc, toB_c, toP_vc, toP_c, opC_tmp, opW_tmp, opI_tmp, opP_tmp, opC_int, opW_int, opI_int, opW_bool, opC_bool, opW_nils, opW_nilp, opC_nils, opW_str, rBin_eq, rUn_eq, rPick_eq, rLen_eq, rIndexAddr_eq, rFieldAddr_eq, rLoad_eq, aAppend_eq, aApp_eq, aStore_eq, retU_some, retCS_ok, retW_some, retC_some, b_lss, b_leq, b_gtr, b_geq, b_eql, b_neq, b_add, b_sub, b_mul, b_seql, b_sneq, u_not, goR_nm, goR_ret, resOf_nil, resOf_cons, resOne_tmp, tupOf_one, guardOk_eq, boolIs_t, boolIs_f, boolIs_t', boolIs_f', boolIs_skip, nBox_eq, rExtract_eq, resOne_cell, tupOf_two, cells_c, cells_agg, true_implies, false_implies, and_true, true_and, Bool.not_false, Bool.not_true, Bool.true_eq_false, Bool.false_eq_true, decide_eq_true_eq, decide_eq_false_iff_not, Bool.not_eq_true', Bool.not_eq_false', decide_true, decide_false, Nat.reduceShiftRight, Nat.reduceMod, Nat.reduceEqDiff, Nat.reduceAdd, ↓reduceIte, reduceCtorEq, List.getElem?_cons_zero, List.getElem?_cons_succ, g11, k11, g12, k12, g13, k13, g3, k3, g4, k4, lt_true hlt, hix, hsu, ld35, ldA, cellsD_cons, cellsD_nil, toC_int, toC_strD, List.drop_zero, List.take_succ_cons, List.take_zero, List.length_cons, List.length_nil, Nat.zero_add, Nat.le_refl, al35, st35, w1, fA_35_0, ldh3, ldh35, l1, eq_self, l4, l3, aMap_eq, hup]
          obtain ⟨q4, q5⟩ := tail es2 p3 hm0
          have l5 : ldHC (s2.h.set s.nx (.map es2)).get s'.nx 0 = some (.c (.int .i64 ny)) := (r1'.keep (s' := ⟨s2.h.set s.nx (.map es2), s2.nx⟩) (T.get_set_ne _ _ (by omega))).ldC (o := 0) rfl
          simp only [go_seq, go_region, go_move, go_assign, go_len, go_binOp, go_block, go_scope, go_label, go_skip, go_exit, go_ret, go_ops_nil, go_load, go_fieldAddr, go_unOp, go_pick, go_indexAddr, go_slice, go_append, go_alloc, go_box, go_store, go_buildSlice, go_index, go_field, go_extract, go_build, go_nilCheck, go_lookup, go_mapUpdate, go_b, go_nil, goE_nil, goE_nm, goE_ex_c, goE_ret_c, goE_ex_b, goE_ret_b, go_guard, go_lookup, go_mapUpdate, go_cond, goB_tt, goB_ff, goG_tt, goG_ff, goO_some, goV_ok, goN_some, goV_okR, opnd_tmp, opnd_int, opnd_bool, opnd_nils, opnd_nilp, opnd_str, A.get_putP, A.get_baseP, L.get_consP, L.get_setP, L.get_nilP, tbit_eqP, kept_true, kept_false, A.keep_put, A.keep_base, A.flush_put, A.flush_base, putA_some, putA_none, argsA_cons, argsA_nil, toC_vc, toC_c, toW_vc, toW_w, toI_vc, toI_c, toB_vc, toB_c, toP_vc, toP_c, opC_tmp, opW_tmp, opI_tmp, opP_tmp, opC_int, opW_int, opI_int, opW_bool, opC_bool, opW_nils, opW_nilp, opC_nils, opW_str, rBin_eq, rUn_eq, rPick_eq, rLen_eq, rIndexAddr_eq, rFieldAddr_eq, rLoad_eq, aAppend_eq, aApp_eq, aStore_eq, retU_some, retCS_ok, retW_some, retC_some, b_lss, b_leq, b_gtr, b_geq, b_eql, b_neq, b_add, b_sub, b_mul, b_seql, b_sneq, u_not, goR_nm, goR_ret, resOf_nil, resOf_cons, resOne_tmp, tupOf_one, guardOk_eq, boolIs_t, boolIs_f, boolIs_t', boolIs_f', boolIs_skip, nBox_eq, rExtract_eq, resOne_cell, tupOf_two, cells_c, cells_agg, true_implies, false_implies, and_true, true_and, Bool.not_false, Bool.not_true, Bool.true_eq_false, Bool.false_eq_true, decide_eq_true_eq, decide_eq_false_iff_not, Bool.not_eq_true', Bool.not_eq_false', decide_true, decide_false, Nat.reduceShiftRight, Nat.reduceMod, Nat.reduceEqDiff, Nat.reduceAdd, ↓reduceIte, reduceCtorEq, List.getElem?_cons_zero, List.getElem?_cons_succ, g11, k11, g12, k12, g13, k13, g3, k3, g4, k4, lt_true hlt, hix, hsu, ld35, ldA, cellsD_cons, cellsD_nil, toC_int, toC_strD, List.drop_zero, List.take_succ_cons, List.take_zero, List.length_cons, List.length_nil, Nat.zero_add, Nat.le_refl, al35, st35, w1, fA_35_0, ldh3, ldh35, l1, eq_self, l5]
          have hN : ∀ y, 0 < i → (els b)[i - 1]? = some y → ∃ n m, num [.int .i64 ny, avx, vsx, .str (Str.ofL inx)] = .int .i64 n ∧ num y = .int .i64 m ∧ ((n = m ∧ SameC [.int .i64 ny, avx, vsx, .str (Str.ofL inx)] y) ∨ (1 ≤ n ∧ n - 1 = m)) := by
            intro y h1 h2
            rw [hy] at h2; cases h2
            exact ⟨ny, ny, rfl, rfl, .inl ⟨rfl, sameC_symm (ht.1 rfl)⟩⟩
          refine ⟨_, ?_, i + 1, ny, es2, rfl, hlt, ⟨?_, ?_⟩, ⟨?_, ?_⟩, ⟨?_, ?_⟩, ⟨?_, ?_⟩, ⟨?_, ?_⟩, T.get_set_same _ _ _, (by show s.nx < s2.nx; omega), p2, q4, q5, hm1, hn2, next (fun h => absurd h (by omega)) hN⟩
          all_goals first | (simp only [opnd_tmp, opnd_int, opnd_bool, opnd_nils, opnd_nilp, opnd_str, A.get_putP, A.get_baseP, L.get_consP, L.get_setP, L.get_nilP, tbit_eqP, kept_true, kept_false, A.keep_put, A.keep_base, A.flush_put, A.flush_base, putA_some, putA_none, argsA_cons, argsA_nil, toC_vc, toC_c, toW_vc, toW_w, toI_vc, toI_c, toB_vc, toB_c, toP_vc, toP_c, opC_tmp, opW_tmp, opI_tmp, opP_tmp, opC_int, opW_int, opI_int, opW_bool, opC_bool, opW_nils, opW_nilp, opC_nils, opW_str, cells_c, cells_agg, Bool.not_false, Bool.not_true, Bool.true_eq_false, Bool.false_eq_true, decide_eq_true_eq, decide_eq_false_iff_not, Bool.not_eq_true', Bool.not_eq_false', decide_true, decide_false, Nat.reduceShiftRight, Nat.reduceMod, Nat.reduceEqDiff, Nat.reduceAdd, ↓reduceIte, reduceCtorEq, List.getElem?_cons_zero, List.getElem?_cons_succ, g11, k11, g12, k12, g3, k3]; done) | (simp only [go_seq, go_region, go_move, go_assign, go_len, go_binOp, go_block, go_scope, go_label, go_skip, go_exit, go_ret, go_ops_nil, go_load, go_fieldAddr, go_unOp, go_pick, go_indexAddr, go_slice, go_append, go_alloc, go_box, go_store, go_buildSlice, go_index, go_field, go_extract, go_build, go_nilCheck, go_lookup, go_mapUpdate, go_b, go_nil, goE_nil, goE_nm, goE_ex_c, goE_ret_c, goE_ex_b, goE_ret_b, go_guard, go_lookup, go_mapUpdate, go_cond, goB_tt, goB_ff, goG_tt, goG_ff, goO_some, goV_ok, goN_some, goV_okR, opnd_tmp, opnd_int, opnd_bool, opnd_nils, opnd_nilp, opnd_str, A.get_putP, A.get_baseP, L.get_consP, L.get_setP, L.get_nilP, tbit_eqP, kept_true, kept_false, A.keep_put, A.keep_base, A.flush_put, A.flush_base, putA_some, putA_none, argsA_cons, argsA_nil, toC_vc, toC_c, toW_vc, toW_w, toI_vc, toI_c, toB_vc, toB_c, toP_vc, toP_c, opC_tmp, opW_tmp, opI_tmp, opP_tmp, opC_int, opW_int, opI_int, opW_bool, opC_bool, opW_nils, opW_nilp, opC_nils, opW_str, rBin_eq, rUn_eq, rPick_eq, rLen_eq, rIndexAddr_eq, rFieldAddr_eq, rLoad_eq, aAppend_eq, aApp_eq, aStore_eq, retU_some, retCS_ok, retW_some, retC_some, b_lss, b_leq, b_gtr, b_geq, b_eql, b_neq, b_add, b_sub, b_mul, b_seql, b_sneq, u_not, goR_nm, goR_ret, resOf_nil, resOf_cons, resOne_tmp, tupOf_one, guardOk_eq, boolIs_t, boolIs_f, boolIs_t', boolIs_f', boolIs_skip, nBox_eq, rExtract_eq, resOne_cell, tupOf_two, cells_c, cells_agg, true_implies, false_implies, and_true, true_and, Bool.not_false, Bool.not_true, Bool.true_eq_false, Bool.false_eq_true, decide_eq_true_eq, decide_eq_false_iff_not, Bool.not_eq_true', Bool.not_eq_false', decide_true, decide_false, Nat.reduceShiftRight, Nat.reduceMod, Nat.reduceEqDiff, Nat.reduceAdd, ↓reduceIte, reduceCtorEq, List.getElem?_cons_zero, List.getElem?_cons_succ]; rfl) | omega
    · have hq' : (nx = m) = False := eq_false hq
      have hw := wrap_up (m := m) (by omega) hm2
      by_cases hnx : nx = wrapK .i64 (m + 1)
      · by_cases hneg : nx < 0
        · simp only [go_seq, go_region, go_move, go_assign, go_len, go_binOp, go_block, go_scope, go_label, go_skip, go_exit, go_ret, go_ops_nil, go_load, go_fieldAddr, go_unOp, go_pick, go_indexAddr, go_slice, go_append, go_alloc, go_box, go_store, go_buildSlice, go_index, go_field, go_extract, go_build, go_nilCheck, go_lookup, go_mapUpdate, go_b, go_nil, goE_nil, goE_nm, goE_ex_c, goE_ret_c, goE_ex_b, goE_ret_b, go_guard, go_lookup, go_mapUpdate, go_cond, goB_tt, goB_ff, goG_tt, goG_ff, goO_some, goV_ok, goN_some, goV_okR, opnd_tmp, opnd_int, opnd_bool, opnd_nils, opnd_nilp, opnd_str, A.get_putP, A.get_baseP, L.get_consP, L.get_setP, L.get_nilP, tbit_eqP, kept_true, kept_false, A.keep_put, A.keep_base, A.flush_put, A.flush_base, putA_some, putA_none, argsA_cons, argsA_nil, toC_vc, toC_c, toW_vc, toW_w, toI_vc, toI_c, toB_vc, toB_c, toP_vc, toP_c, opC_tmp, opW_tmp, opI_tmp, opP_tmp, opC_int, opW_int, opI_int, opW_bool, opC_bool, opW_nils, opW_nilp, opC_nils, opW_str, rBin_eq, rUn_eq, rPick_eq, rLen_eq, rIndexAddr_eq, rFieldAddr_eq, rLoad_eq, aAppend_eq, aApp_eq, aStore_eq, retU_some, retCS_ok, retW_some, retC_some, b_lss, b_leq, b_gtr, b_geq, b_eql, b_neq, b_add, b_sub, b_mul, b_seql, b_sneq, u_not, goR_nm, goR_ret, resOf_nil, resOf_cons, resOne_tmp, tupOf_one, guardOk_eq, boolIs_t, boolIs_f, boolIs_t', boolIs_f', boolIs_skip, nBox_eq, rExtract_eq, resOne_cell, tupOf_two, cells_c, cells_agg, true_implies, false_implies, and_true, true_and, Bool.not_false, Bool.not_true, Bool.true_eq_false, Bool.false_eq_true, decide_eq_true_eq, decide_eq_false_iff_not, Bool.not_eq_true', Bool.not_eq_false', decide_true, decide_false, Nat.reduceShiftRight, Nat.reduceMod, Nat.reduceEqDiff, Nat.reduceAdd, ↓reduceIte, reduceCtorEq, List.getElem?_cons_zero, List.getElem?_cons_succ, g11, k11, g12, k12, g13, k13, g3, k3, g4, k4, lt_true hlt, hix, hsu, ld35, ldA, cellsD_cons, cellsD_nil, toC_int, toC_strD, List.drop_zero, List.take_succ_cons, List.take_zero, List.length_cons, List.length_nil, Nat.zero_add, Nat.le_refl, al35, st35, w1, fA_35_0, ldh3, ldh35, l1, eq_self, hq', eq_true hnx, eq_true hneg]
          refine hK false _ ⟨(fun h => by cases h), fun h => absurd h (bad (fun _ => by omega) fun y m' h1 h2 h3 _ h => ?_)⟩
          rcases h with ⟨h, _⟩ | ⟨h, _⟩
          · exact hq h
          · omega
        · have hmm : m < 9223372036854775807 ∧ nx = m + 1 := by
            rw [hw] at hnx
            split at hnx
            · omega
            · omega
          obtain ⟨hmm1, hmm2⟩ := hmm
          have hf := findK_gt (show m < nx by omega) es hkeys
          have hlk := fun look h => lookup46 X (look := look) (r := s.nx) (es := es) h nx
          simp only [hf] at hlk
          obtain ⟨s2, w2, r2, n2, o2⟩ := row_written s1 [.int .i64 0, .nils, .nils, .str ⟨0, 0⟩] [.int .i64 0, .nils, .nils, .str ⟨0, 0⟩] rfl
          have r1' : LRow s2 s'.nx [.int .i64 nx, avx.toC, vsx.toC, .str (Str.ofL inx)] := r1.keep (o2 _ (by omega))
          have l3 : ldHA 4 s2.h.get s'.nx 0 = some (.agg [.int .i64 nx, avx.toC, vsx.toC, .str (Str.ofL inx)]) := r1'.ldA
          have l4 := r1'.ldC (o := 0) rfl
          have hmap2 : s2.h.get s.nx = some (.map es) := by rw [o2 _ (by omega)]; exact hmap1
          obtain ⟨es2, p1, p2, p3⟩ := putK_ok (show m ≤ nx by omega) (.agg (cellsD [.int .i64 nx, avx, vsx, .str (Str.ofL inx)])) es hkeys
          have hup := mapUpdate46 X hmap2 p1
          simp only [cellsD_cons, cellsD_nil, toC_int, toC_strD] at hup
          have l5 : ldHC (s2.h.set s.nx (.map es2)).get s'.nx 0 = some (.c (.int .i64 nx)) := (r1'.keep (s' := ⟨s2.h.set s.nx (.map es2), s2.nx⟩) (T.get_set_ne _ _ (by omega))).ldC (o := 0) rfl
          obtain ⟨q4, q5⟩ := tail es2 p3 (by omega)
          simp only [go_seq, go_region, go_move, go_assign, go_len, go_binOp, go_block, go_scope, go_label, go_skip, go_exit, go_ret, go_ops_nil, go_load, go_fieldAddr, go_unOp, go_pick, go_indexAddr, go_slice, go_append, go_alloc, go_box, go_store, go_buildSlice, go_index, go_field, go_extract, go_build, go_nilCheck, go_lookup, go_mapUpdate, go_b, go_nil, goE_nil, goE_nm, goE_ex_c, goE_ret_c, goE_ex_b, goE_ret_b, go_guard, go_lookup, go_mapUpdate, go_cond, goB_tt, goB_ff, goG_tt, goG_ff, goO_some, goV_ok, goN_some, goV_okR, opnd_tmp, opnd_int, opnd_bool, opnd_nils, opnd_nilp, opnd_str, A.get_putP, A.get_baseP, L.get_consP, L.get_setP, L.get_nilP, tbit_eqP, kept_true, kept_false, A.keep_put, A.keep_base, A.flush_put, A.flush_base, putA_some, putA_none, argsA_cons, argsA_nil, toC_vc, toC_c, toW_vc, toW_w, toI_vc, toI_c, toB_vc, toB_c, toP_vc, toP_c, opC_tmp, opW_tmp, opI_tmp, opP_tmp, opC_int, opW_int, opI_int, opW_bool, opC_bool, opW_nils, opW_nilp, opC_nils, opW_str, rBin_eq, rUn_eq, rPick_eq, rLen_eq, rIndexAddr_eq, rFieldAddr_eq, rLoad_eq, aAppend_eq, aApp_eq, aStore_eq, retU_some, retCS_ok, retW_some, retC_some, b_lss, b_leq, b_gtr, b_geq, b_eql, b_neq, b_add, b_sub, b_mul, b_seql, b_sneq, u_not, goR_nm, goR_ret, resOf_nil, resOf_cons, resOne_tmp, tupOf_one, guardOk_eq, boolIs_t, boolIs_f, boolIs_t', boolIs_f', boolIs_skip, nBox_eq, rExtract_eq, resOne_cell, tupOf_two, cells_c, cells_agg, true_implies, false_implies, and_true, true_and, Bool.not_false, Bool.not_true, Bool.true_eq_false, Bool.false_eq_true, decide_eq_true_eq, decide_eq_false_iff_not, Bool.not_eq_true', Bool.not_eq_false', decide_true, decide_false, Nat.reduceShiftRight, Nat.reduceMod, Nat.reduceEqDiff, Nat.reduceAdd, ↓reduceIte, reduceCtorEq, List.getElem?_cons_zero, List.getElem?_cons_succ, g11, k11, g12, k12, g13, k13, g3, k3, g4, k4, lt_true hlt, hix, hsu, ld35, ldA, cellsD_cons, cellsD_nil, toC_int, toC_strD, List.drop_zero, List.take_succ_cons, List.take_zero, List.length_cons, List.length_nil, Nat.zero_add, Nat.le_refl, al35, st35, w1, fA_35_0, ldh3, ldh35, l1, eq_self, hq', eq_true hnx, eq_false hneg, rLookup_eq, hlk _ hmap1, w2, l3, l4, aMap_eq, hup, l5]
          have hN1 : i = 0 → nx = 0 := by
            intro h
            rcases hlast with ⟨_, e⟩ | ⟨_, e, _⟩ <;> omega
          have hN : ∀ y, 0 < i → (els b)[i - 1]? = some y → ∃ n m, num [.int .i64 nx, avx, vsx, .str (Str.ofL inx)] = .int .i64 n ∧ num y = .int .i64 m ∧ ((n = m ∧ SameC [.int .i64 nx, avx, vsx, .str (Str.ofL inx)] y) ∨ (1 ≤ n ∧ n - 1 = m)) := by
            intro y h1 h2
            rcases hlast with ⟨e, _⟩ | ⟨y', _, e2, e3, e4⟩
            · omega
            · rw [h2] at e2; cases e2
              exact ⟨nx, m, rfl, e3, .inr ⟨by omega, by omega⟩⟩
          refine ⟨_, ?_, i + 1, nx, es2, rfl, hlt, ⟨?_, ?_⟩, ⟨?_, ?_⟩, ⟨?_, ?_⟩, ⟨?_, ?_⟩, ⟨?_, ?_⟩, T.get_set_same _ _ _, (by show s.nx < s2.nx; omega), p2, q4, q5, (by omega), hn2, next hN1 hN⟩
          all_goals first | (simp only [opnd_tmp, opnd_int, opnd_bool, opnd_nils, opnd_nilp, opnd_str, A.get_putP, A.get_baseP, L.get_consP, L.get_setP, L.get_nilP, tbit_eqP, kept_true, kept_false, A.keep_put, A.keep_base, A.flush_put, A.flush_base, putA_some, putA_none, argsA_cons, argsA_nil, toC_vc, toC_c, toW_vc, toW_w, toI_vc, toI_c, toB_vc, toB_c, toP_vc, toP_c, opC_tmp, opW_tmp, opI_tmp, opP_tmp, opC_int, opW_int, opI_int, opW_bool, opC_bool, opW_nils, opW_nilp, opC_nils, opW_str, cells_c, cells_agg, Bool.not_false, Bool.not_true, Bool.true_eq_false, Bool.false_eq_true, decide_eq_true_eq, decide_eq_false_iff_not, Bool.not_eq_true', Bool.not_eq_false', decide_true, decide_false, Nat.reduceShiftRight, Nat.reduceMod, Nat.reduceEqDiff, Nat.reduceAdd, ↓reduceIte, reduceCtorEq, List.getElem?_cons_zero, List.getElem?_cons_succ, g11, k11, g12, k12, g3, k3]; done) | (simp only [go_seq, go_region, go_move, go_assign, go_len, go_binOp, go_block, go_scope, go_label, go_skip, go_exit, go_ret, go_ops_nil, go_load, go_fieldAddr, go_unOp, go_pick, go_indexAddr, go_slice, go_append, go_alloc, go_box, go_store, go_buildSlice, go_index, go_field, go_extract, go_build, go_nilCheck, go_lookup, go_mapUpdate, go_b, go_nil, goE_nil, goE_nm, goE_ex_c, goE_ret_c, goE_ex_b, goE_ret_b, go_guard, go_lookup, go_mapUpdate, go_cond, goB_tt, goB_ff, goG_tt, goG_ff, goO_some, goV_ok, goN_some, goV_okR, opnd_tmp, opnd_int, opnd_bool, opnd_nils, opnd_nilp, opnd_str, A.get_putP, A.get_baseP, L.get_consP, L.get_setP, L.get_nilP, tbit_eqP, kept_true, kept_false, A.keep_put, A.keep_base, A.flush_put, A.flush_base, putA_some, putA_none, argsA_cons, argsA_nil, toC_vc, toC_c, toW_vc, toW_w, toI_vc, toI_c, toB_vc, toB_c, toP_vc, toP_c, opC_tmp, opW_tmp, opI_tmp, opP_tmp, opC_int, opW_int, opI_int, opW_bool, opC_bool, opW_nils, opW_nilp, opC_nils, opW_str, rBin_eq, rUn_eq, rPick_eq, rLen_eq, rIndexAddr_eq, rFieldAddr_eq, rLoad_eq, aAppend_eq, aApp_eq, aStore_eq, retU_some, retCS_ok, retW_some, retC_some, b_lss, b_leq, b_gtr, b_geq, b_eql, b_neq, b_add, b_sub, b_mul, b_seql, b_sneq, u_not, goR_nm, goR_ret, resOf_nil, resOf_cons, resOne_tmp, tupOf_one, guardOk_eq, boolIs_t, boolIs_f, boolIs_t', boolIs_f', boolIs_skip, nBox_eq, rExtract_eq, resOne_cell, tupOf_two, cells_c, cells_agg, true_implies, false_implies, and_true, true_and, Bool.not_false, Bool.not_true, Bool.true_eq_false, Bool.false_eq_true, decide_eq_true_eq, decide_eq_false_iff_not, Bool.not_eq_true', Bool.not_eq_false', decide_true, decide_false, Nat.reduceShiftRight, Nat.reduceMod, Nat.reduceEqDiff, Nat.reduceAdd, ↓reduceIte, reduceCtorEq, List.getElem?_cons_zero, List.getElem?_cons_succ]; rfl) | omega
      · simp only [go_seq, go_region, go_move, go_assign, go_len, go_binOp, go_block, go_scope, go_label, go_skip, go_exit, go_ret, go_ops_nil, go_load, go_fieldAddr, go_unOp, go_pick, go_indexAddr, go_slice, go_append, go_alloc, go_box, go_store, go_buildSlice, go_index, go_field, go_extract, go_build, go_nilCheck, go_lookup, go_mapUpdate, go_b, go_nil, goE_nil, goE_nm, goE_ex_c, goE_ret_c, goE_ex_b, goE_ret_b, go_guard, go_lookup, go_mapUpdate, go_cond, goB_tt, goB_ff, goG_tt, goG_ff, goO_some, goV_ok, goN_some, goV_okR, opnd_tmp, opnd_int, opnd_bool, opnd_nils, opnd_nilp, opnd_str, A.get_putP, A.get_baseP, L.get_consP, L.get_setP, L.get_nilP, tbit_eqP, kept_true, kept_false, A.keep_put, A.keep_base, A.flush_put, A.flush_base, putA_some, putA_none, argsA_cons, argsA_nil, toC_vc, toC_c, toW_vc, toW_w, toI_vc, toI_c, toB_vc, toB_c, toP_vc, toP_c, opC_tmp, opW_tmp, opI_tmp, opP_tmp, opC_int, opW_int, opI_int, opW_bool, opC_bool, opW_nils, opW_nilp, opC_nils, opW_str, rBin_eq, rUn_eq, rPick_eq, rLen_eq, rIndexAddr_eq, rFieldAddr_eq, rLoad_eq, aAppend_eq, aApp_eq, aStore_eq, retU_some, retCS_ok, retW_some, retC_some, b_lss, b_leq, b_gtr, b_geq, b_eql, b_neq, b_add, b_sub, b_mul, b_seql, b_sneq, u_not, goR_nm, goR_ret, resOf_nil, resOf_cons, resOne_tmp, tupOf_one, guardOk_eq, boolIs_t, boolIs_f, boolIs_t', boolIs_f', boolIs_skip, nBox_eq, rExtract_eq, resOne_cell, tupOf_two, cells_c, cells_agg, true_implies, false_implies, and_true, true_and, Bool.not_false, Bool.not_true, Bool.true_eq_false, Bool.false_eq_true, decide_eq_true_eq, decide_eq_false_iff_not, Bool.not_eq_true', Bool.not_eq_false', decide_true, decide_false, Nat.reduceShiftRight, Nat.reduceMod, Nat.reduceEqDiff, Nat.reduceAdd, ↓reduceIte, reduceCtorEq, List.getElem?_cons_zero, List.getElem?_cons_succ, g11, k11, g12, k12, g13, k13, g3, k3, g4, k4, lt_true hlt, hix, hsu, ld35, ldA, cellsD_cons, cellsD_nil, toC_int, toC_strD, List.drop_zero, List.take_succ_cons, List.take_zero, List.length_cons, List.length_nil, Nat.zero_add, Nat.le_refl, al35, st35, w1, fA_35_0, ldh3, ldh35, l1, eq_self, hq', eq_false hnx]
        refine hK false _ ⟨(fun h => by cases h), fun h => absurd h (bad (fun e hz => ?_) fun y m' h1 h2 h3 _ h => ?_)⟩
        · rcases hlast with ⟨_, e1⟩ | ⟨_, e1, _⟩
          · subst e1
            exact hnx (by rw [hw]; simpa using hz)
          · omega
        · rcases h with ⟨h, _⟩ | ⟨h, h'⟩
          · exact hq h
          · rcases hlast with ⟨e, _⟩ | ⟨_, _, _, _, e4⟩
            · omega
            · refine hnx ?_
              rw [hw, if_neg (by omega)]; omega
  · simp only [go_seq, go_region, go_move, go_assign, go_len, go_binOp, go_block, go_scope, go_label, go_skip, go_exit, go_ret, go_ops_nil, go_load, go_fieldAddr, go_unOp, go_pick, go_indexAddr, go_slice, go_append, go_alloc, go_box, go_store, go_buildSlice, go_index, go_field, go_extract, go_build, go_nilCheck, go_lookup, go_mapUpdate, go_b, go_nil, goE_nil, goE_nm, goE_ex_c, goE_ret_c, goE_ex_b, goE_ret_b, go_guard, go_lookup, go_mapUpdate, go_cond, goB_tt, goB_ff, goG_tt, goG_ff, goO_some, goV_ok, goN_some, goV_okR, opnd_tmp, opnd_int, opnd_bool, opnd_nils, opnd_nilp, opnd_str, A.get_putP, A.get_baseP, L.get_consP, L.get_setP, L.get_nilP, tbit_eqP, kept_true, kept_false, A.keep_put, A.keep_base, A.flush_put, A.flush_base, putA_some, putA_none, argsA_cons, argsA_nil, toC_vc, toC_c, toW_vc, toW_w, toI_vc, toI_c, toB_vc, toB_c, toP_vc, toP_c, opC_tmp, opW_tmp, opI_tmp, opP_tmp, opC_int, opW_int, opI_int, opW_bool, opC_bool, opW_nils, opW_nilp, opC_nils, opW_str, rBin_eq, rUn_eq, rPick_eq, rLen_eq, rIndexAddr_eq, rFieldAddr_eq, rLoad_eq, aAppend_eq, aApp_eq, aStore_eq, retU_some, retCS_ok, retW_some, retC_some, b_lss, b_leq, b_gtr, b_geq, b_eql, b_neq, b_add, b_sub, b_mul, b_seql, b_sneq, u_not, goR_nm, goR_ret, resOf_nil, resOf_cons, resOne_tmp, tupOf_one, guardOk_eq, boolIs_t, boolIs_f, boolIs_t', boolIs_f', boolIs_skip, nBox_eq, rExtract_eq, resOne_cell, tupOf_two, cells_c, cells_agg, true_implies, false_implies, and_true, true_and, Bool.not_false, Bool.not_true, Bool.true_eq_false, Bool.false_eq_true, decide_eq_true_eq, decide_eq_false_iff_not, Bool.not_eq_true', Bool.not_eq_false', decide_true, decide_false, Nat.reduceShiftRight, Nat.reduceMod, Nat.reduceEqDiff, Nat.reduceAdd, ↓reduceIte, reduceCtorEq, List.getElem?_cons_zero, List.getElem?_cons_succ, g11, k11, g12, k12, g13, k13, g3, k3, g4, k4, lt_false hlt]
    have : i = (els b).length := by omega
    subst this
    exact hK true s' ⟨fun _ j x hj => hok j x (List.getElem?_eq_some_iff.1 hj).1 hj, fun _ => rfl⟩
end Au
