import Derived.Test.YtofngijkhghnmaaAuM
namespace Au
open Go Go.Proofs Ev
set_option linter.unusedVariables false
set_option linter.unusedSimpArgs false
set_option maxRecDepth 100000
/-! ### contracts that answer yes or no -/
def RB (P Q : List PW → Prop) (ps : List PW) (v : PV) : Prop := P ps ∧ ∃ t : Bool, (t = true ↔ Q ps) ∧ v = .w (.c (.bool t))
theorem callR_B {E : Env} {f : Nat} {P Q : List PW → Prop} {ps : List PW} {s : St} (hx : E.ext.get f = some (.fn (ofG (RB P Q)) [])) (hP : P ps) (hp : ps.all PW.plain = true) {t : Bool} (ht : t = true ↔ Q ps) : CallR E f (ps.map PW.toW) s (.w (.c (.bool t))) s :=
  callR_fn (ps := ps) (pv := .w (.c (.bool t))) hx (ofG_eq ⟨hP, t, ht, rfl⟩ (by
    rintro v' ⟨_, t', e2, rfl⟩
    have : t' = t := by rw [Bool.eq_iff_iff, e2, ht]
    rw [this])) hp
theorem tOf (p : Prop) : ∃ t : Bool, t = true ↔ p := by
  by_cases h : p
  · exact ⟨true, by simp [h]⟩
  · exact ⟨false, by simp [h]⟩
theorem b_contract {exts : List (Nat × Ext)} (f : Nat) (P Q : List PW → Prop) (any : Try.prog.follows .mixedOrders = true) (ty : typesOk Try.prog = true) (fo : kps.all (fun p => fnOk Try.prog p.1) = true)
    (hx : ∀ q ∈ exts, ExtOne Try.prog Try.prog.globals.size q.1 q.2) (hf : (pairT exts .nil).get f = none)
    (h : ∀ ps s K, P ps → (∀ (t : Bool) s', (t = true ↔ Q ps) → K (vc (.bool t)) s') → goC (En (pairT exts .nil)) f (ps.map PW.toW) s K) : ExtOne Try.prog Try.prog.globals.size f (.fn (ofG (RB P Q)) []) :=
  fn_of_go any ty fo hx hf _ (by
    rintro ps pv ⟨hP, t, ht, rfl⟩
    refine h ps _ _ hP fun t' s' ht' => ⟨[], ?_⟩
    have : t' = t := by rw [Bool.eq_iff_iff, ht, ht']
    rw [this]; rfl)
def pOne : List PW → Prop
  | [.c d] => Good 6 GoodO d ∧ (allD (els d)).length ≤ 1000
  | _ => False
def qSteady : List PW → Prop
  | [.c d] => steadyD (allD (els d))
  | _ => False
def pOO : List PW → Prop
  | [.agg x, .agg y] => GoodO x ∧ GoodO y
  | _ => False
def qF : List PW → Prop
  | [.agg x, .agg y] => SameF x y
  | _ => False
def q17 : List PW → Prop
  | [.agg x, .agg y] => SameF x y ∧ eqCalls (callsO x) (callsO y)
  | _ => False
def pCC : List PW → Prop
  | [.c a, .c b, .c (.fn n)] => Good 4 GoodC a ∧ Good 4 GoodC b ∧ n = 18
  | _ => False
def qCC : List PW → Prop
  | [.c a, .c b, .c _] => eqCalls (els a) (els b)
  | _ => False
def pL : List PW → Prop
  | [.c d] => Good 6 GoodO d
  | _ => False
def qL : List PW → Prop
  | [.c d] => ¬ small (els d)
  | _ => False
theorem goodO_plain {x : List D} (h : GoodO x) : x.all D.plain = true := by
  obtain ⟨e, st, ot, fl, vr, ca, rfl, h1, h2, h3⟩ := h
  simp only [List.all_cons, List.all_nil, isels_plain h1.el, isels_plain h2.el, isels_plain h3.el]; rfl
/-! ### the last outcome -/
def zeroO : List D := [.int .i64 0, .int .i64 0, .str (Str.ofL []), .nils, .nils, .nils]
theorem good_nils (z : Nat) (p : List D → Prop) : Good z p .nils := ⟨.inl rfl, (fun x hx => by simp [els] at hx), Nat.zero_le _⟩
theorem zeroO_good : GoodO zeroO := ⟨0, 0, [], .nils, .nils, .nils, rfl, good_nils _ _, good_nils _ _, good_nils _ _⟩
theorem ofL_nil : Str.ofL [] = ⟨0, 0⟩ := by kernel_rfl
theorem zeroO_cells : cellsD zeroO = [.int .i64 0, .int .i64 0, .str ⟨0, 0⟩, .nils, .nils, .nils] := by
  show [C.int .i64 0, C.int .i64 0, C.str (Str.ofL []), C.nils, C.nils, C.nils] = _
  rw [ofL_nil]
def lastO (os : List (List D)) : List D := os.getLastD zeroO
theorem lastO_good {os : List (List D)} (h : ∀ o ∈ os, GoodO o) : GoodO (lastO os) := by
  unfold lastO
  cases os with
  | nil => exact zeroO_good
  | cons a l =>
    have : (a :: l).getLastD zeroO ∈ a :: l := by
      rw [List.getLastD_eq_getLast?, List.getLast?_eq_some_getLast (List.cons_ne_nil a l)]
      exact List.getLast_mem _
    exact h _ this
theorem lastO_at {os : List (List D)} (h : os ≠ []) : os[os.length - 1]? = some (lastO os) := by
  unfold lastO
  rw [← List.getLast?_eq_getElem?, List.getLastD_eq_getLast?]
  cases hh : os.getLast? with
  | none => exact absurd (List.getLast?_eq_none_iff.1 hh) h
  | some x => rfl
theorem goodO_len {x : List D} (h : GoodO x) : (cellsD x).length = 6 := by
  obtain ⟨e, st, ot, fl, vr, ca, rfl, _⟩ := h; rfl
theorem ldA6 {x : List D} (h : GoodO x) : ldA 6 x 0 = some (.agg (cellsD x)) := by
  obtain ⟨e, st, ot, fl, vr, ca, rfl, _⟩ := h
  rfl
theorem LRow.ldA6 {s : St} {b : Nat} {x : List D} (hx : GoodO x) (h : LRow s b (cellsD x)) : ldHA 6 s.h.get b 0 = some (.agg (cellsD x)) := by
  have := h.ldA; rwa [goodO_len hx] at this
theorem bu27 (X : T Ext) (a : A) : rBuild (En X) a 27 [] = some (.w (.agg (cellsD zeroO))) := by
  rw [zeroO_cells]; kernel_rfl
def RLast (ps : List PW) (v : PV) : Prop := ∃ d, ps = [.c d] ∧ Good 6 GoodO d ∧ v = .tup [.agg (lastO (els d)), .c (.bool (!decide (els d = [])))]
theorem last23 (X : T Ext) (hX : (En X).ext.get 23 = none) (d : D) (s : St) (hd : Good 6 GoodO d) (K : V → St → Prop)
    (hK : ∀ s', K (.tup [.agg (cellsD (lastO (els d))), .c (.bool (!decide (els d = [])))]) s') : goC (En X) 23 [.c d.toC] s K := by
  refine goC_body hX (kp23 X) (fn23 X) rfl (by kernel_rfl) ?_
  have hl : ∀ look, len (En X) 28 look d.toC = some (els d).length := fun look => len_els (us28 X) hd.el
  have hgo := lastO_good hd.all
  obtain ⟨s1, w1, r1, n1, o1⟩ := row_written s [.int .i64 0, .int .i64 0, .str ⟨0, 0⟩, .nils, .nils, .nils] (cellsD (lastO (els d))) (goodO_len hgo)
  have hl1 := LRow.ldA6 hgo r1
  have hres : Try.f23.results.toList = [.cell 2 27, .tmp 3] := rfl
  by_cases h0 : els d = []
  · have hlo : lastO (els d) = zeroO := by rw [h0]; rfl
    have hz : (Int.ofNat (els d).length = 0) = True := by rw [h0]; exact eq_true rfl
    rw [hlo] at w1 hl1 hK
    have hK : ∀ s', K (.tup [.agg (cellsD zeroO), .c (.bool false)]) s' := by simpa [h0] using hK
    simp only [go_seq, go_region, go_move, go_assign, go_len, go_binOp, go_block, go_scope, go_label, go_skip, go_exit, go_ret, go_ops_nil, go_load, go_fieldAddr, go_unOp, go_pick, go_indexAddr, go_slice, go_append, go_alloc, go_box, go_store, go_buildSlice, go_index, go_field, go_extract, go_build, go_nilCheck, go_lookup, go_mapUpdate, go_b, go_nil, goE_nil, goE_nm, goE_ex_c, goE_ret_c, goE_ex_b, goE_ret_b, go_guard, go_lookup, go_mapUpdate, go_cond, goB_tt, goB_ff, goG_tt, goG_ff, goO_some, goV_ok, goN_some, goV_okR, opnd_tmp, opnd_int, opnd_bool, opnd_nils, opnd_nilp, opnd_str, A.get_putP, A.get_baseP, L.get_consP, L.get_setP, L.get_nilP, tbit_eqP, kept_true, kept_false, A.keep_put, A.keep_base, A.flush_put, A.flush_base, putA_some, putA_none, argsA_cons, argsA_nil, toC_vc, toC_c, toW_vc, toW_w, toI_vc, toI_c, toB_vc, toB_c, toP_vc, toP_c, opC_tmp, opW_tmp, opI_tmp, opP_tmp, opC_int, opW_int, opI_int, opW_bool, opC_bool, opW_nils, opW_nilp, opC_nils, opW_str, rBin_eq, rUn_eq, rPick_eq, rLen_eq, rIndexAddr_eq, rFieldAddr_eq, rLoad_eq, aAppend_eq, aApp_eq, aStore_eq, retU_some, retCS_ok, retW_some, retC_some, b_lss, b_leq, b_gtr, b_geq, b_eql, b_neq, b_add, b_sub, b_mul, b_seql, b_sneq, u_not, goR_nm, goR_ret, resOf_nil, resOf_cons, resOne_tmp, tupOf_one, guardOk_eq, boolIs_t, boolIs_f, boolIs_t', boolIs_f', boolIs_skip, nBox_eq, rExtract_eq, resOne_cell, tupOf_two, cells_c, cells_agg, true_implies, false_implies, and_true, true_and, Bool.not_false, Bool.not_true, Bool.true_eq_false, Bool.false_eq_true, decide_eq_true_eq, decide_eq_false_iff_not, Bool.not_eq_true', Bool.not_eq_false', decide_true, decide_false, Nat.reduceShiftRight, Nat.reduceMod, Nat.reduceEqDiff, Nat.reduceAdd, ↓reduceIte, reduceCtorEq, List.getElem?_cons_zero, List.getElem?_cons_succ, hl, hz, al27, st27, bu27, goodO_len zeroO_good, w1, ldh27, hl1, hres]
    exact hK _
  · have hp : 0 < (els d).length := List.length_pos_iff.2 h0
    have hz : (Int.ofNat (els d).length = 0) = False := eq_false (by show ¬ (((els d).length : Nat) : Int) = 0; omega)
    have hix := index_els (us28 X) (sz27 X) hd.el (lastO_at h0)
    have hle := hd.len
    have hml : maxLen = 9223372036854775807 := rfl
    have hsu : wrapK .i64 (Int.ofNat (els d).length - 1) = Int.ofNat ((els d).length - 1) := by
      have : Int.ofNat (els d).length - 1 = Int.ofNat ((els d).length - 1) := by show ((els d).length : Int) - 1 = (((els d).length - 1 : Nat) : Int); omega
      rw [this, wrap_nat (by omega)]
    have hK : ∀ s', K (.tup [.agg (cellsD (lastO (els d))), .c (.bool true)]) s' := by simpa [h0] using hK
    simp only [go_seq, go_region, go_move, go_assign, go_len, go_binOp, go_block, go_scope, go_label, go_skip, go_exit, go_ret, go_ops_nil, go_load, go_fieldAddr, go_unOp, go_pick, go_indexAddr, go_slice, go_append, go_alloc, go_box, go_store, go_buildSlice, go_index, go_field, go_extract, go_build, go_nilCheck, go_lookup, go_mapUpdate, go_b, go_nil, goE_nil, goE_nm, goE_ex_c, goE_ret_c, goE_ex_b, goE_ret_b, go_guard, go_lookup, go_mapUpdate, go_cond, goB_tt, goB_ff, goG_tt, goG_ff, goO_some, goV_ok, goN_some, goV_okR, opnd_tmp, opnd_int, opnd_bool, opnd_nils, opnd_nilp, opnd_str, A.get_putP, A.get_baseP, L.get_consP, L.get_setP, L.get_nilP, tbit_eqP, kept_true, kept_false, A.keep_put, A.keep_base, A.flush_put, A.flush_base, putA_some, putA_none, argsA_cons, argsA_nil, toC_vc, toC_c, toW_vc, toW_w, toI_vc, toI_c, toB_vc, toB_c, toP_vc, toP_c, opC_tmp, opW_tmp, opI_tmp, opP_tmp, opC_int, opW_int, opI_int, opW_bool, opC_bool, opW_nils, opW_nilp, opC_nils, opW_str, rBin_eq, rUn_eq, rPick_eq, rLen_eq, rIndexAddr_eq, rFieldAddr_eq, rLoad_eq, aAppend_eq, aApp_eq, aStore_eq, retU_some, retCS_ok, retW_some, retC_some, b_lss, b_leq, b_gtr, b_geq, b_eql, b_neq, b_add, b_sub, b_mul, b_seql, b_sneq, u_not, goR_nm, goR_ret, resOf_nil, resOf_cons, resOne_tmp, tupOf_one, guardOk_eq, boolIs_t, boolIs_f, boolIs_t', boolIs_f', boolIs_skip, nBox_eq, rExtract_eq, resOne_cell, tupOf_two, cells_c, cells_agg, true_implies, false_implies, and_true, true_and, Bool.not_false, Bool.not_true, Bool.true_eq_false, Bool.false_eq_true, decide_eq_true_eq, decide_eq_false_iff_not, Bool.not_eq_true', Bool.not_eq_false', decide_true, decide_false, Nat.reduceShiftRight, Nat.reduceMod, Nat.reduceEqDiff, Nat.reduceAdd, ↓reduceIte, reduceCtorEq, List.getElem?_cons_zero, List.getElem?_cons_succ, hl, hz, hsu, hix, al27, st27, ld27, ldA6 hgo, goodO_len hgo, w1, ldh27, hl1, hres]
    exact hK _
theorem goC_last {E : Env} {f : Nat} {d : D} {s : St} {K : V → St → Prop} (hx : E.ext.get f = some (.fn (ofG RLast) [])) (hd : Good 6 GoodO d) (hk : K (.tup [.agg (cellsD (lastO (els d))), .c (.bool (!decide (els d = [])))]) s) :
    goC E f [.c d.toC] s K :=
  goC_fn (ps := [.c d]) (pv := .tup [.agg (lastO (els d)), .c (.bool (!decide (els d = [])))]) hx ⟨d, rfl, hd, rfl⟩ (by
    rintro v' ⟨d', h1, _, rfl⟩
    cases h1; rfl) (by simp [PW.plain, isels_plain hd.el]) hk
theorem last_contract {exts : List (Nat × Ext)} (any : Try.prog.follows .mixedOrders = true) (ty : typesOk Try.prog = true) (fo : kps.all (fun p => fnOk Try.prog p.1) = true)
    (hx : ∀ q ∈ exts, ExtOne Try.prog Try.prog.globals.size q.1 q.2) (hf : (pairT exts .nil).get 23 = none) : ExtOne Try.prog Try.prog.globals.size 23 (.fn (ofG RLast) []) :=
  fn_of_go any ty fo hx hf _ (by
    rintro ps pv ⟨d, rfl, hd, rfl⟩
    refine last23 _ hf d _ hd _ fun s' => ⟨[], ?_⟩
    have hz := frzWs_plain s'.h.get [.agg (lastO (els d)), .c (.bool (!decide (els d = [])))] (by
      have := goodO_plain (lastO_good hd.all)
      simp [PW.plain, this, D.plain])
    show (match frzWs s'.h.get [.agg (cellsD (lastO (els d))), .c (.bool (!decide (els d = [])))] with | some (ds, bs) => some (PV.tup ds, bs) | none => none) = _
    have hz' : frzWs s'.h.get [.agg (cellsD (lastO (els d))), .c (.bool (!decide (els d = [])))] = some ([.agg (lastO (els d)), .c (.bool (!decide (els d = [])))], []) := hz
    rw [hz'])
end Au
