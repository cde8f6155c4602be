import Derived.Test.YtpkjpkfamdmgiaaGreatDoorWqJ
import Derived.Test.YtpkjpkfamdmgiaaGreatDoorWqD
import Derived.Test.YtpkjpkfamdmgiaaGreatDoorEwL
namespace Ws
open Go Go.Proofs Ev Wq
set_option linter.unusedVariables false
set_option linter.unusedSimpArgs false
set_option linter.unnecessarySimpa false
set_option maxRecDepth 100000
theorem rIndex_eq (E : Env) (a : A) (t : Nat) (x i : Operand) : rIndex E a t x i = match opW a x with
  | some w => match opI a i with
    | some n => retW (index E t w n)
    | none => none
  | none => none := rfl
theorem index_str (X : T Ext) (l : List UInt8) {i : Nat} {c : UInt8} (h : l[i]? = some c) : index (En X) 9 (.c (.str (Str.ofL l))) (Int.ofNat i) = some (.c (.int .u8 (Int.ofNat c.toNat))) := by
  obtain ⟨hi, hc⟩ := List.getElem?_eq_some_iff.1 h
  unfold index
  rw [ustr9]
  show (match inB (Int.ofNat i) l.length with
    | some m => some (W.c (.int .u8 (Int.ofNat ((Str.ofL l).at m))))
    | none => none) = _
  rw [inB_nat hi]
  simp only []
  rw [Str.at_ofL l i hi, hc]
theorem cv5 (X : T Ext) (c : UInt8) (look : Look) : Ev.convert (En X) 5 21 (.int .u8 (Int.ofNat c.toNat)) look = some (.int .i32 (Int.ofNat c.toNat)) := by
  have h := c.toNat_lt
  unfold Ev.convert
  rw [uint5]
  simp only []
  rw [uint21]
  show intC .i32 (wrapK .i32 (Int.ofNat c.toNat)) = _
  rw [intC_eq]
  congr 2
  rw [wrapK_eq]
  refine wrap_in _ _ ?_ ?_
  · show (-2147483648 : Int) ≤ ((c.toNat : Nat) : Int); omega
  · show ((c.toNat : Nat) : Int) ≤ 2147483647; omega
theorem lit_e : Str.of { data := #[] } = Str.ofL [] := of_lit []
theorem callR_ds {X : T Ext} (h59 : (En X).ext.get 59 = some (.fn (ofG RDs) gsU)) (l : List UInt8) (hl : l ≠ []) (s : St) (hg : rowsAre s.h.get gsU = true) : CallR (En X) 59 [.c (.str (Str.ofL l))] s (.tup [.c (.int .i32 (Int.ofNat (decL l).1)), .c (.int .i64 (Int.ofNat (decL l).2))]) s :=
  callR_fn_g (ps := [.c (.str (Str.ofL l))]) (pv := .tup [.c (.int .i32 (Int.ofNat (decL l).1)), .c (.int .i64 (Int.ofNat (decL l).2))]) h59 hg (ofG_eq ⟨l, rfl, hl, rfl⟩ (by
    rintro v' ⟨l', h1, _, rfl⟩
    simp only [List.cons.injEq, PW.c.injEq, D.str.injEq, and_true] at h1
    rw [ofL_inj h1])) rfl
theorem dec38 (X : T Ext) (hX : (En X).ext.get 38 = none) (h59 : (En X).ext.get 59 = some (.fn (ofG RDs) gsU)) (l : List UInt8) (hl : l ≠ []) (s : St) (hg : rowsAre s.h.get gsU = true) (K : V → St → Prop)
    (hK : ∀ s', K (.tup [.c (.int .i32 (Int.ofNat (decL l).1)), .c (.int .i64 (Int.ofNat (decL l).2))]) s') : goC (En X) 38 [.c (.str (Str.ofL l))] s K := by
  refine goC_body hX (kp38 X) (fn38 X) rfl (by kernel_rfl) ?_
  have hres : Tryz.f38.results.toList = [.tmp 2, .tmp 3] := rfl
  cases l with
  | nil => exact absurd rfl hl
  | cons c r =>
    have hb : ((c :: r) == ([] : List UInt8)) = false := rfl
    have hi0 : index (En X) 9 (.c (.str (Str.ofL (c :: r)))) 0 = some (.c (.int .u8 (Int.ofNat c.toNat))) := index_str X (c :: r) (i := 0) (c := c) rfl
    by_cases h128 : c.toNat < 128
    · have e1 : (Int.ofNat c.toNat < 128) = True := eq_true (by show ((c.toNat : Nat) : Int) < 128; omega)
      rw [decL_asc r h128] at hK
      simp only [zEV, Nat.reduceShiftRight, Nat.reduceMod, Nat.reduceEqDiff, Nat.reduceAdd, ↓reduceIte, reduceCtorEq, lit_e, hb, rIndex_eq, hi0, e1, rConvert_eq, go_convert, isNew21, cv5, hres]
      exact hK _
    · have e1 : (Int.ofNat c.toNat < 128) = False := eq_false (by show ¬ ((c.toNat : Nat) : Int) < 128; omega)
      simp only [zEV, Nat.reduceShiftRight, Nat.reduceMod, Nat.reduceEqDiff, Nat.reduceAdd, ↓reduceIte, reduceCtorEq, lit_e, hb, rIndex_eq, hi0, e1]
      refine go_call _ _ _ _ _ _ (ws := [.c (.str (Str.ofL (c :: r)))]) rfl (by simp only [zEA, Nat.reduceShiftRight, Nat.reduceMod, Nat.reduceEqDiff, Nat.reduceAdd, ↓reduceIte, reduceCtorEq, argsOf_cons, argsOf_nil]) ?_
      refine goC_of (callR_ds h59 (c :: r) (by simp) _ hg) ?_
      simp only [zEV, Nat.reduceShiftRight, Nat.reduceMod, Nat.reduceEqDiff, Nat.reduceAdd, ↓reduceIte, reduceCtorEq, hres]
      exact hK _
noncomputable def e38 : Nat × Ext := (38, .fn (ofG RDs) gsU)
theorem c38 : OkE Tryz.prog e38 := fn_goE (exts := [e59]) Wk.any_ok Wk.types_ok fns_ok (oks1 c59 oks0) rfl gsU gsU_ok _ (by
  rintro ps pv ⟨l, rfl, hl, rfl⟩
  exact dec38 _ rfl rfl l hl _ (by kernel_rfl) _ fun s' => ⟨[], rfl⟩)
theorem callR_d38 {X : T Ext} (h38 : (En X).ext.get 38 = some (.fn (ofG RDs) gsU)) (l : List UInt8) (hl : l ≠ []) (s : St) (hg : rowsAre s.h.get gsU = true) : CallR (En X) 38 [.c (.str (Str.ofL l))] s (.tup [.c (.int .i32 (Int.ofNat (decL l).1)), .c (.int .i64 (Int.ofNat (decL l).2))]) s :=
  callR_fn_g (ps := [.c (.str (Str.ofL l))]) (pv := .tup [.c (.int .i32 (Int.ofNat (decL l).1)), .c (.int .i64 (Int.ofNat (decL l).2))]) h38 hg (ofG_eq ⟨l, rfl, hl, rfl⟩ (by
    rintro v' ⟨l', h1, _, rfl⟩
    simp only [List.cons.injEq, PW.c.injEq, D.str.injEq, and_true] at h1
    rw [ofL_inj h1])) rfl
theorem runes22 (X : T Ext) (hX : (En X).ext.get 22 = none) (h38 : (En X).ext.get 38 = some (.fn (ofG RDs) gsU)) (l : List UInt8) (hl : l.length ≤ 1000) (s : St) (hg : rowsAre s.h.get gsU = true) (hgn : ∀ p ∈ gsU, p.1 < s.nx) (K : V → St → Prop) (hK : ∀ c s', SlAt s' c 1 ((runesL l).map elR) → K (vc c) s') : goC (En X) 22 [.c (.str (Str.ofL l))] s K := by
  refine goC_body hX (kp22 X) (fn22 X) rfl (by kernel_rfl) ?_
  have hres : Tryz.f22.results.toList = [.tmp 2] := rfl
  simp only [zEV, Nat.reduceShiftRight, Nat.reduceMod, Nat.reduceEqDiff, Nat.reduceAdd, ↓reduceIte, reduceCtorEq]
  refine go_loop (goL_inv (fun n' a' s' => ∃ i dn c, n' = l.length - i ∧ i ≤ l.length ∧ dn.length ≤ i ∧ Has a' 0 (vc (.str (Str.ofL (l.drop i)))) ∧ Has a' 3 (vc c) ∧ SlAt s' c 1 (dn.map elR) ∧ dn ++ runesL (l.drop i) = runesL l ∧ s.nx ≤ s'.nx ∧ (∀ x, rw' c x → s.nx ≤ x) ∧ (∀ x, x < s.nx → s'.h.get x = s.h.get x)) (n := l.length)
    ⟨0, [], .nils, rfl, Nat.zero_le _, Nat.le_refl _, ⟨rfl, rfl⟩, ⟨rfl, rfl⟩, SlAt.nil _ 1, by rw [List.drop_zero]; rfl, Nat.le_refl _, fun x hx => absurd hx (rw_nils x), fun _ _ => rfl⟩ ?_)
  rintro n' a' s' ⟨i, dn, c, rfl, hi, hdn, ⟨g0, k0⟩, ⟨g3, k3⟩, hsl, hgl, hnx, hrw, hkp⟩
  by_cases hlt : i < l.length
  · have hdr : l.drop i = l[i] :: l.drop (i + 1) := List.drop_eq_getElem_cons hlt
    have hne : l.drop i ≠ [] := by rw [hdr]; exact List.cons_ne_nil _ _
    have hw := decL_w (l.drop i) hne
    have hrun : runesL (l.drop i) = (decL (l.drop i)).1 :: runesL (l.drop (i + (decL (l.drop i)).2)) := by
      rw [hdr, runesL_cons, ← hdr, List.drop_drop]
    have hlen : ∀ look, len (En X) 9 look (.str (Str.ofL (l.drop i))) = some (l.drop i).length := fun look => len_ofL (ustr9 X) look (l.drop i)
    have hgt : (0 < Int.ofNat (l.drop i).length) = True := eq_true (Int.natCast_pos.2 (by rw [List.length_drop]; omega))
    have hg2 : rowsAre s'.h.get gsU = true := rows_congr (fun p hp => hkp _ (hgn p hp)) hg
    have hcall := callR_d38 h38 (l.drop i) hne s' hg2
    rw [hrun] at hgl
    have hdrop : ∀ look, slice (En X) 9 (.str (Str.ofL (l.drop i))) (some (.int .i64 (Int.ofNat (decL (l.drop i)).2))) none none look = some (.str (Str.ofL (l.drop (i + (decL (l.drop i)).2)))) := fun look => by
      rw [slice_sdrop (ustr9 X) look (l.drop i) hw.2, List.drop_drop]
    rw [List.length_drop] at hw
    generalize hr : (decL (l.drop i)).1 = r at *
    generalize hwd : (decL (l.drop i)).2 = w at *
    have sl3 := SlAt.newRow (y := .row (mkRow [.int .i32 (Int.ofNat r)])) hsl
    have n3 : (s'.new (.row (mkRow [.int .i32 (Int.ofNat r)]))).nx = s'.nx + 1 := St.new_nx _ _
    have hrow : (s'.new (.row (mkRow [.int .i32 (Int.ofNat r)]))).h.get s'.nx = some (.row ⟨T.ofL [.int .i32 (Int.ofNat r)], 1, true, 0, []⟩) := by rw [row_newC, mkRow_eq]; rfl
    have hn := newCells_one (z := 1) (x := elR r) hrow (T.getL_ofL _) (some 1)
    obtain ⟨c', s4, happ, sl4, kp4, hc4⟩ := app_cells (y := .sl s'.nx 0 1 (some 1) 1) (l := [elR r]) (el63 X) (by rw [ti21.1]; exact sl3) (by rw [ti21.1]; intro x hx; simp at hx; subst hx; rfl) (by rw [ti21.1]; decide)
      (by rw [ti21.1]; exact hn) (by rw [ti21.2]; have : maxBytes = 140737488355328 := rfl; simp; omega)
    rw [ti21.1, show dn.map elR ++ [elR r] = (dn ++ [r]).map elR by simp] at sl4
    simp only [zEV, Nat.reduceShiftRight, Nat.reduceMod, Nat.reduceEqDiff, Nat.reduceAdd, ↓reduceIte, reduceCtorEq, g0, k0, g3, k3, hlen, hgt]
    refine go_call _ _ _ _ _ _ (ws := [.c (.str (Str.ofL (l.drop i)))]) rfl (by simp only [zEV, Nat.reduceShiftRight, Nat.reduceMod, Nat.reduceEqDiff, Nat.reduceAdd, ↓reduceIte, reduceCtorEq, g0, k0, g3, k3, argsOf_cons, argsOf_nil]) ?_
    refine goC_of hcall ?_
    simp only [zEV, Nat.reduceShiftRight, Nat.reduceMod, Nat.reduceEqDiff, Nat.reduceAdd, ↓reduceIte, reduceCtorEq, g0, k0, g3, k3, nBuildSlice_eq, partsOf_cons, partsOf_nil, bS63_1, us63, happ, rSlice_lo, hdrop]
    have kk := kp4.1
    refine ⟨_, ?_, i + w, dn ++ [r], c', rfl, by omega, by simp only [List.length_append, List.length_cons, List.length_nil]; omega, ⟨?_, ?_⟩, ⟨?_, ?_⟩, sl4, by rw [← hgl]; simp, by omega, fun x hx => ?_, fun x hx => ?_⟩
    rotate_right 2
    · obtain ⟨o, nn, cap, z, ec⟩ := hx
      rcases hc4 _ _ _ _ _ ec with ⟨_, h2⟩ | h2
      · cases h2
      · omega
    · rw [kp4.2 x (by omega) (fun b o nn cap z ec => by have := hrw b ⟨_, _, _, _, ec⟩; omega), new_old s' _ (by omega)]
      exact hkp x hx
    all_goals first | (simp only [zEA, Nat.reduceShiftRight, Nat.reduceMod, Nat.reduceEqDiff, Nat.reduceAdd, ↓reduceIte, reduceCtorEq, g0, k0, g3, k3]; done) | omega
  · have hdr : l.drop i = [] := List.drop_eq_nil_of_le (by omega)
    rw [hdr] at g0 k0 hgl
    have hlen : ∀ look, len (En X) 9 look (.str (Str.ofL [])) = some 0 := fun look => len_ofL (ustr9 X) look []
    have hgt : (0 < Int.ofNat 0) = False := eq_false (by decide)
    rw [runesL_nil, List.append_nil] at hgl
    rw [hgl] at hsl
    simp only [zEV, Nat.reduceShiftRight, Nat.reduceMod, Nat.reduceEqDiff, Nat.reduceAdd, ↓reduceIte, reduceCtorEq, g0, k0, g3, k3, hlen, hgt, hres]
    exact hK _ _ hsl
def RR7 (ps : List PW) (v : PV) : Prop := ∃ l : List UInt8, ps = [.c (.str (Str.ofL l))] ∧ l.length ≤ 1000 ∧ v = .w (.c (slD 1 ((runesL l).map elR)))
noncomputable def e22 : Nat × Ext := (22, .fn (ofG RR7) gsU)
theorem c22 : OkE Tryz.prog e22 := fn_goE (exts := [e38]) Wk.any_ok Wk.types_ok fns_ok (oks1 c38 oks0) rfl gsU gsU_ok _ (by
  rintro ps pv ⟨l, rfl, hl, rfl⟩
  refine runes22 _ rfl rfl l hl _ (by kernel_rfl) (rows_below gsU_ok) _ fun c s' h => ?_
  obtain ⟨bs, hf⟩ := SlAt.frz h (elR_plain _) (Nat.le_refl 1)
  exact ⟨bs, frz_c hf⟩)
theorem callR_r7 {X : T Ext} (h22 : (En X).ext.get 22 = some (.fn (ofG RR7) gsU)) (l : List UInt8) (hl : l.length ≤ 1000) (s : St) (hg : rowsAre s.h.get gsU = true) : CallR (En X) 22 [.c (.str (Str.ofL l))] s (.w (.c (slD 1 ((runesL l).map elR)).toC)) s :=
  callR_fn_g (ps := [.c (.str (Str.ofL l))]) (pv := .w (.c (slD 1 ((runesL l).map elR)))) h22 hg (ofG_eq ⟨l, rfl, hl, rfl⟩ (by
    rintro v' ⟨l', h1, _, rfl⟩
    simp only [List.cons.injEq, PW.c.injEq, D.str.injEq, and_true] at h1
    rw [ofL_inj h1])) rfl
theorem chars9 (X : T Ext) (hX : (En X).ext.get 9 = none) (h22 : (En X).ext.get 22 = some (.fn (ofG RR7) gsU)) (v : List UInt8) (q : Bool) (hv : v.length ≤ 1000) (s : St) (hg : rowsAre s.h.get gsU = true) (K : V → St → Prop) (hK : ∀ c s', SlAt s' c 2 (((runesL v).map (withQ q)).map elC) → K (vc c) s') :
    goC (En X) 9 [.c (.str (Str.ofL v)), .c (.bool q)] s K := by
  refine goC_body hX (kp9 X) (fn9 X) rfl (by kernel_rfl) ?_
  have hres : Tryz.f9.results.toList = [.tmp 4] := rfl
  have hrl := runesL_len _ v (Nat.le_refl _)
  have hcall := callR_r7 h22 v hv s hg
  obtain ⟨rs, hrs⟩ : ∃ rs, rs = runesL v := ⟨_, rfl⟩
  rw [← hrs] at hK hrl hcall
  have hie : IsEls 1 (slD 1 (rs.map elR)) := isEls_slD (elR_one rs)
  have hlen : ∀ look, len (En X) 63 look (slD 1 (rs.map elR)).toC = some rs.length := fun look => by rw [len_els (us63 X) hie, els_slD, List.length_map]
  simp only [zEV, Nat.reduceShiftRight, Nat.reduceMod, Nat.reduceEqDiff, Nat.reduceAdd, ↓reduceIte, reduceCtorEq]
  refine go_call _ _ _ _ _ _ (ws := [.c (.str (Str.ofL v))]) rfl (by simp only [zEA, Nat.reduceShiftRight, Nat.reduceMod, Nat.reduceEqDiff, Nat.reduceAdd, ↓reduceIte, reduceCtorEq, argsOf_cons, argsOf_nil]) ?_
  refine goC_of hcall ?_
  generalize hd : (slD 1 (rs.map elR)).toC = dc at *
  simp only [zEV, Nat.reduceShiftRight, Nat.reduceMod, Nat.reduceEqDiff, Nat.reduceAdd, ↓reduceIte, reduceCtorEq]
  refine go_loop (goL_inv (fun n' a' s' => ∃ i c, n' = rs.length - i ∧ i ≤ rs.length ∧ Has a' 1 (vc (.bool q)) ∧ Has a' 5 (vc dc) ∧ Has a' 6 (vc c) ∧ Has a' 7 (vc (.int .i64 (Int.ofNat i))) ∧ SlAt s' c 2 (((rs.take i).map (withQ q)).map elC)) (n := rs.length)
    ⟨0, .nils, rfl, Nat.zero_le _, ⟨rfl, rfl⟩, ⟨rfl, rfl⟩, ⟨rfl, rfl⟩, ⟨rfl, rfl⟩, by simpa using SlAt.nil _ 2⟩ ?_)
  rintro n' a' s' ⟨i, c, rfl, hi, ⟨g1, k1⟩, ⟨g5, k5⟩, ⟨g6, k6⟩, ⟨g7, k7⟩, hsl⟩
  by_cases hlt : i < rs.length
  · have hlt' : (Int.ofNat i < Int.ofNat rs.length) = True := by simpa using Int.ofNat_lt.2 hlt
    have hsu := nat_succ (show i < 9223372036854775807 by omega)
    obtain ⟨r, hr⟩ : ∃ r, rs[i]? = some r := ⟨_, List.getElem?_eq_getElem hlt⟩
    have hix : indexAddr (En X) 63 dc (Int.ofNat i) = some (.dp (elR r) 0) := by rw [← hd]; exact index_els (us63 X) (sz21 X) hie (by rw [els_slD]; exact getD_map hr)
    have ld : loadD (En X) 21 (elR r) 0 = some (.c (.int .i32 (Int.ofNat r))) := by rw [ld21]; rfl
    have htk : ((rs.take (i + 1)).map (withQ q)).map elC = ((rs.take i).map (withQ q)).map elC ++ [elC (r, q)] := by
      rw [List.take_add_one, hr]; simp [withQ]
    have sl3 := SlAt.newRow (y := .row (mkRow [.int .i32 (Int.ofNat r), .bool q])) hsl
    have hrow : (s'.new (.row (mkRow [.int .i32 (Int.ofNat r), .bool q]))).h.get s'.nx = some (.row ⟨T.ofL [.int .i32 (Int.ofNat r), .bool q], 2, true, 0, []⟩) := by rw [row_newC, mkRow_eq]; rfl
    have hn := newCells_one (z := 2) (x := elC (r, q)) hrow (T.getL_ofL _) (some 1)
    obtain ⟨c', s4, happ, sl4, kp4, hc4⟩ := app_cells (y := .sl s'.nx 0 1 (some 1) 2) (l := [elC (r, q)]) (el40 X) (by rw [ti65.1]; exact sl3) (by rw [ti65.1]; intro x hx; simp at hx; subst hx; rfl) (by rw [ti65.1]; decide)
      (by rw [ti65.1]; exact hn) (by rw [ti65.2]; have : maxBytes = 140737488355328 := rfl; simp; omega)
    rw [ti65.1, ← htk] at sl4
    simp only [zEV, Nat.reduceShiftRight, Nat.reduceMod, Nat.reduceEqDiff, Nat.reduceAdd, ↓reduceIte, reduceCtorEq, g1, k1, g5, k5, g6, k6, g7, k7, hlen, hlt', hix, ld, rBuild_eq, partsOf_cons, partsOf_nil, bu65, nBuildSlice_eq, bS40_1, us40, happ, hsu]
    refine ⟨_, ?_, i + 1, c', rfl, hlt, ⟨?_, ?_⟩, ⟨?_, ?_⟩, ⟨?_, ?_⟩, ⟨?_, ?_⟩, sl4⟩
    all_goals first | (simp only [zEA, Nat.reduceShiftRight, Nat.reduceMod, Nat.reduceEqDiff, Nat.reduceAdd, ↓reduceIte, reduceCtorEq, g1, k1, g5, k5, g6, k6, g7, k7]; done) | omega
  · have hlt' : (Int.ofNat i < Int.ofNat rs.length) = False := by simpa using fun h => hlt (Int.ofNat_lt.1 h)
    rw [List.take_of_length_le (by omega)] at hsl
    simp only [zEV, Nat.reduceShiftRight, Nat.reduceMod, Nat.reduceEqDiff, Nat.reduceAdd, ↓reduceIte, reduceCtorEq, g1, k1, g5, k5, g6, k6, g7, k7, hlen, hlt', hres]
    exact hK _ _ hsl
def RC13 (ps : List PW) (v : PV) : Prop := ∃ (l : List UInt8) (q : Bool), ps = [.c (.str (Str.ofL l)), .c (.bool q)] ∧ l.length ≤ 1000 ∧ v = .w (.c (chD (charsOf l q)))
noncomputable def e9 : Nat × Ext := (9, .fn (ofG RC13) gsU)
theorem c9 : OkE Tryz.prog e9 := fn_goE (exts := [e22]) Wk.any_ok Wk.types_ok fns_ok (oks1 c22 oks0) rfl gsU gsU_ok _ (by
  rintro ps pv ⟨l, q, rfl, hl, rfl⟩
  refine chars9 _ rfl rfl l q hl _ (by kernel_rfl) _ fun c s' h => ?_
  obtain ⟨bs, hf⟩ := SlAt.frz h (elC_plain _) (by decide)
  refine ⟨bs, frz_c ?_⟩
  unfold chD charsOf
  rw [runes_eq]; exact hf)
theorem callR_c13 {X : T Ext} (h9 : (En X).ext.get 9 = some (.fn (ofG RC13) gsU)) (l : List UInt8) (q : Bool) (hl : l.length ≤ 1000) (s : St) (hg : rowsAre s.h.get gsU = true) : CallR (En X) 9 [.c (.str (Str.ofL l)), .c (.bool q)] s (.w (.c (chD (charsOf l q)).toC)) s :=
  callR_fn_g (ps := [.c (.str (Str.ofL l)), .c (.bool q)]) (pv := .w (.c (chD (charsOf l q)))) h9 hg (ofG_eq ⟨l, q, rfl, hl, rfl⟩ (by
    rintro v' ⟨l', q', h1, _, rfl⟩
    simp only [List.cons.injEq, PW.c.injEq, D.str.injEq, D.bool.injEq, and_true] at h1
    rw [ofL_inj h1.1, h1.2])) rfl
theorem text8 (X : T Ext) (hX : (En X).ext.get 8 = none) (cs : List (Nat × Bool)) (hn : cs.length ≤ 100000) (s : St) (K : V → St → Prop) (hK : ∀ s', K (.w (.c (.str (textS cs)))) s') :
    goC (En X) 8 [.c (chD cs).toC] s K := by
  refine goC_body hX (kp8 X) (fn8 X) rfl (by kernel_rfl) ?_
  have hres : Tryz.f8.results.toList = [.tmp 2] := rfl
  have hie : IsEls 2 (chD cs) := isEls_slD (elC_two cs)
  have he : els (chD cs) = cs.map elC := els_slD _ _
  have hlen : ∀ look, len (En X) 40 look (chD cs).toC = some cs.length := fun look => by rw [len_els (us40 X) hie, he, List.length_map]
  generalize hdc : (chD cs).toC = dc at *
  simp only [zEV, Nat.reduceShiftRight, Nat.reduceMod, Nat.reduceEqDiff, Nat.reduceAdd, ↓reduceIte, reduceCtorEq]
  refine go_loop (goL_inv (fun n' a' s' => ∃ i c, n' = cs.length - i ∧ i ≤ cs.length ∧ Has a' 0 (vc dc) ∧ Has a' 3 (vc c) ∧ Has a' 4 (vc (.int .i64 (Int.ofNat i))) ∧ SlAt s' c 1 (((cs.take i).map Prod.fst).map elR)) (n := cs.length)
    ⟨0, .nils, rfl, Nat.zero_le _, ⟨rfl, rfl⟩, ⟨rfl, rfl⟩, ⟨rfl, rfl⟩, by simpa using SlAt.nil _ 1⟩ ?_)
  rintro n' a' s' ⟨i, c, rfl, hi, ⟨g0, k0⟩, ⟨g3, k3⟩, ⟨g4, k4⟩, hsl⟩
  by_cases hlt : i < cs.length
  · have hlt' : (Int.ofNat i < Int.ofNat cs.length) = True := by simpa using Int.ofNat_lt.2 hlt
    have hsu := nat_succ (show i < 9223372036854775807 by omega)
    obtain ⟨x, hx⟩ : ∃ x, cs[i]? = some x := ⟨_, List.getElem?_eq_getElem hlt⟩
    have hix : indexAddr (En X) 40 dc (Int.ofNat i) = some (.dp (elC x) 0) := by rw [← hdc]; exact index_els (us40 X) (sz65 X) hie (by rw [he]; exact getD_map hx)
    have hfd : fieldAddrD (En X) 65 (elC x) 0 0 = some (.dp (elC x) 0) := fD_65_0 X (elC x) 0
    have ld : loadD (En X) 21 (elC x) 0 = some (.c (.int .i32 (Int.ofNat x.1))) := by rw [ld21]; rfl
    have htk : ((cs.take (i + 1)).map Prod.fst).map elR = ((cs.take i).map Prod.fst).map elR ++ [elR x.1] := by
      rw [List.take_add_one, hx]; simp
    have sl3 := SlAt.newRow (y := .row (mkRow [.int .i32 (Int.ofNat x.1)])) hsl
    have hrow : (s'.new (.row (mkRow [.int .i32 (Int.ofNat x.1)]))).h.get s'.nx = some (.row ⟨T.ofL [.int .i32 (Int.ofNat x.1)], 1, true, 0, []⟩) := by rw [row_newC, mkRow_eq]; rfl
    have hn := newCells_one (z := 1) (x := elR x.1) hrow (T.getL_ofL _) (some 1)
    obtain ⟨c', s4, happ, sl4, kp4, hc4⟩ := app_cells (y := .sl s'.nx 0 1 (some 1) 1) (l := [elR x.1]) (el63 X) (by rw [ti21.1]; exact sl3) (by rw [ti21.1]; intro x hx; simp at hx; subst hx; rfl) (by rw [ti21.1]; decide)
      (by rw [ti21.1]; exact hn) (by rw [ti21.2]; have : maxBytes = 140737488355328 := rfl; simp; omega)
    rw [ti21.1, ← htk] at sl4
    simp only [zEV, Nat.reduceShiftRight, Nat.reduceMod, Nat.reduceEqDiff, Nat.reduceAdd, ↓reduceIte, reduceCtorEq, g0, k0, g3, k3, g4, k4, hlen, hlt', hix, hfd, ld, nBuildSlice_eq, partsOf_cons, partsOf_nil, bS63_1, us63, happ, hsu]
    refine ⟨_, ?_, i + 1, c', rfl, hlt, ⟨?_, ?_⟩, ⟨?_, ?_⟩, ⟨?_, ?_⟩, sl4⟩
    all_goals first | (simp only [zEA, Nat.reduceShiftRight, Nat.reduceMod, Nat.reduceEqDiff, Nat.reduceAdd, ↓reduceIte, reduceCtorEq, g0, k0, g3, k3, g4, k4]; done) | omega
  · have hlt' : (Int.ofNat i < Int.ofNat cs.length) = False := by simpa using fun h => hlt (Int.ofNat_lt.1 h)
    rw [List.take_of_length_le (by omega)] at hsl
    have hcv := conv_text X hsl
    simp only [zEV, Nat.reduceShiftRight, Nat.reduceMod, Nat.reduceEqDiff, Nat.reduceAdd, ↓reduceIte, reduceCtorEq, g0, k0, g3, k3, g4, k4, hlen, hlt', go_convert, isNew9, rConvert_eq, hcv, hres]
    exact hK _
def RT13 (ps : List PW) (v : PV) : Prop := ∃ cs : List (Nat × Bool), ps = [.c (chD cs)] ∧ cs.length ≤ 100000 ∧ v = .w (.c (.str (textS cs)))
noncomputable def e8 : Nat × Ext := (8, .fn (ofG RT13) [])
theorem c8 : OkE Tryz.prog e8 := fn_goE (exts := []) Wk.any_ok Wk.types_ok fns_ok oks0 rfl [] rfl _ (by
  rintro ps pv ⟨cs, rfl, hn, rfl⟩
  exact text8 _ rfl cs hn _ _ fun s' => ⟨[], rfl⟩)
theorem callR_t13 {X : T Ext} (h8 : (En X).ext.get 8 = some (.fn (ofG RT13) [])) (cs : List (Nat × Bool)) (hn : cs.length ≤ 100000) (s : St) : CallR (En X) 8 [.c (chD cs).toC] s (.w (.c (.str (textS cs)))) s :=
  callR_fn (ps := [.c (chD cs)]) (pv := .w (.c (.str (textS cs)))) h8 (ofG_eq ⟨cs, rfl, hn, rfl⟩ (by
    rintro v' ⟨c', h1, _, rfl⟩
    simp only [List.cons.injEq, PW.c.injEq, and_true] at h1
    rw [chD_inj h1])) (by show ((chD cs).plain && true) = true; rw [chD_plain]; rfl)
end Ws
