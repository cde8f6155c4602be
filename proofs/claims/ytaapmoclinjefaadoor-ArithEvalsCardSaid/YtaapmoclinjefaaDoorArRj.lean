import Derived.Test.YtaapmoclinjefaaDoorArRi
import Derived.Test.YtaapmoclinjefaaDoorEwL
namespace Ar
open Go Go.Proofs Ev Go.Lib Nu
set_option linter.unusedVariables false
set_option linter.unusedSimpArgs false
set_option linter.unnecessarySimpa false
set_option maxRecDepth 100000
theorem eat_t {l p : List UInt8} (h : pre (dropBl l) p = true) : eatB false l p = true ∧ eatL false l p = (dropBl l).drop p.length := by
  unfold eatL eatB; rw [h]; exact ⟨rfl, rfl⟩
theorem eat_f {l p : List UInt8} (h : pre (dropBl l) p = false) : eatB false l p = false ∧ eatL false l p = dropBl l := by
  unfold eatL eatB; rw [h]; exact ⟨rfl, rfl⟩
theorem eat_x (l p : List UInt8) : eatB true l p = false ∧ eatL true l p = dropBl l := ⟨rfl, rfl⟩
section
variable {X : T Ext} (h24 : (En X).ext.get 24 = some (.me (ofM REat) [])) {s l : List UInt8} {d : D} {m : Bool} (hl : l <:+ s) (hs : s.length ≤ 900) (hd : d.plain = true) {b : Nat} {S : St}
include h24 hl hs hd
theorem callR_eatT (hr : LRow S b (cellsD (rkL s l d false m))) {p : List UInt8} (hp : p.length ≤ 2) (h : pre (dropBl l) p = true) :
    ∃ S2, CallR (En X) 24 [.c (.ptr b 0), .c (.str (Str.ofL p))] S (.w (.c (.bool true))) S2 ∧ LRow S2 b (cellsD (rkL s ((dropBl l).drop p.length) d false m)) ∧ S2.nx = S.nx ∧ ∀ x, x ≠ b → S2.h.get x = S.h.get x := by
  have := callR_eat h24 hl (by omega) hd p hp hr
  rw [(eat_t h).1, (eat_t h).2] at this
  exact this
theorem callR_eatF (hr : LRow S b (cellsD (rkL s l d false m))) {p : List UInt8} (hp : p.length ≤ 2) (h : pre (dropBl l) p = false) :
    ∃ S2, CallR (En X) 24 [.c (.ptr b 0), .c (.str (Str.ofL p))] S (.w (.c (.bool false))) S2 ∧ LRow S2 b (cellsD (rkL s (dropBl l) d false m)) ∧ S2.nx = S.nx ∧ ∀ x, x ≠ b → S2.h.get x = S.h.get x := by
  have := callR_eat h24 hl (by omega) hd p hp hr
  rw [(eat_f h).1, (eat_f h).2] at this
  exact this
theorem callR_eatX (hr : LRow S b (cellsD (rkL s l d true m))) {p : List UInt8} (hp : p.length ≤ 2) :
    ∃ S2, CallR (En X) 24 [.c (.ptr b 0), .c (.str (Str.ofL p))] S (.w (.c (.bool false))) S2 ∧ LRow S2 b (cellsD (rkL s (dropBl l) d true m)) ∧ S2.nx = S.nx ∧ ∀ x, x ≠ b → S2.h.get x = S.h.get x := by
  have := callR_eat h24 hl (by omega) hd p hp hr
  rw [(eat_x l p).1, (eat_x l p).2] at this
  exact this
end
theorem lit_c41 : Str.of { data := #[41] } = Str.ofL [41] := of_lit [41]
theorem dig_iff2 (c : UInt8) : digN c.toNat = true ↔ 48 ≤ c.toNat ∧ c.toNat ≤ 57 := by
  unfold digN; simp only [Bool.and_eq_true, Nat.ble_eq]
theorem drop_get {s : List UInt8} {j i : Nat} : (s.drop j)[i]? = s[j + i]? := by rw [List.getElem?_drop]
theorem unary49 (X : T Ext) {n : Nat} (h49 : (En X).ext.get 49 = some (.me (ofM (RR .U n)) [])) (h13 : (En X).ext.get 13 = some (.me (ofM (RR .X n)) [])) (h24 : (En X).ext.get 24 = some (.me (ofM REat) [])) (h14 : (En X).ext.get 14 = some (.me (ofM RSk) []))
    (h40 : (En X).ext.get 40 = some (.me (ofM (ROp subR)) [])) (h25 : (En X).ext.get 25 = some (.fn (ofG RYes) [])) (h66 : (En X).ext.get 66 = some (.fn (ofG RRn) [])) (h67 : (En X).ext.get 67 = some (.fn (ofG (RB1 .i32 moreN)) [])) (h68 : (En X).ext.get 68 = some (.fn (ofG RNm) [])) (h69 : (En X).ext.get 69 = some (.me (ofM RVl) []))
    {s l : List UInt8} {d : D} {m : Bool} {vs : List (List UInt8 × List UInt8)} (hl : l <:+ s) (hs : s.length ≤ 900) (hv : IsV d vs) (ho : okVs vs) (hn : l.length ≤ n) {x : Int} {l' : List UInt8} {f' m' : Bool} (hp : Rk vs .U l false m x l' f' m') {b : Nat} {S : St} (hr : LRow S b (cellsD (rkL s l d false m)))
    (hno : extF (.me (ofM (RR .U n)) []) [.c (.ptr b 0)] S = .no) (K : V → St → Prop) (hK : ∀ S', LRow S' b (cellsD (rkL s l' d f' m')) → K (.w (.c (.int .i64 x))) S') : goC (En X) 49 [.c (.ptr b 0)] S K := by
  refine goC_bodyN (fun x hx => by rw [h49] at hx; cases hx; exact hno) (kp49 X) (fn49 X) rfl (by kernel_rfl) ?_
  have hres : Tryd.f49.results.toList = [.tmp 2] := rfl
  have hd := isV_plain hv
  have hql := List.IsSuffix.trans (dropBl_suf l) hl
  have hqn := List.IsSuffix.length_le (dropBl_suf l)
  have hidem := dropBl_idem l
  simp only [zEV, Nat.reduceShiftRight, Nat.reduceMod, Nat.reduceEqDiff, Nat.reduceAdd, ↓reduceIte, reduceCtorEq, lit_minus]
  rcases tkU_cases l with ⟨p1, ht⟩ | ⟨p1, p2, ht⟩ | ⟨p1, p2, p3, ht⟩ | ⟨p1, p2, p3, ht⟩
  · -- minus
    have hlt : ((dropBl l).drop 1).length < l.length := by
      have := tk_lt (sg := sgU) (l := l) (by rw [ht]; simp)
      rw [ht] at this; exact this
    cases hp with
    | minus h1 hp' =>
      rename_i y m1
      rw [ht] at hp'
      obtain ⟨S2, hc2, r2, n2, f2⟩ := callR_eatT h24 hl hs hd hr (p := [45]) (by decide) p1
      refine go_call _ _ _ _ _ _ (ws := [.c (.ptr b 0), .c (.str (Str.ofL [45]))]) rfl (by simp only [zEA, Nat.reduceShiftRight, Nat.reduceMod, Nat.reduceEqDiff, Nat.reduceAdd, ↓reduceIte, reduceCtorEq, argsOf_cons, argsOf_nil, lit_minus]) ?_
      refine goC_of hc2 ?_
      have hsuf := suf_drop2 hql 1
      obtain ⟨S3, hc3, r3, n3, f3⟩ := callR_R h49 hsuf hs hv ho (show ((dropBl l).drop 1).length < n by omega) hp' r2
      have hy := hp'.in trivial
      obtain ⟨S4, hc4, r4, n4, f4⟩ := callR_op h40 hd (a := 0) (c := y) in0 hy r3
      simp only [zEV, Nat.reduceShiftRight, Nat.reduceMod, Nat.reduceEqDiff, Nat.reduceAdd, ↓reduceIte, reduceCtorEq]
      refine go_call _ _ _ _ _ _ (ws := [.c (.ptr b 0)]) rfl (by simp only [zEA, Nat.reduceShiftRight, Nat.reduceMod, Nat.reduceEqDiff, Nat.reduceAdd, ↓reduceIte, reduceCtorEq, argsOf_cons, argsOf_nil]) ?_
      refine goC_of hc3 ?_
      simp only [zEV, Nat.reduceShiftRight, Nat.reduceMod, Nat.reduceEqDiff, Nat.reduceAdd, ↓reduceIte, reduceCtorEq]
      refine go_call _ _ _ _ _ _ (ws := [.c (.ptr b 0), .c (.int .i64 0), .c (.int .i64 y)]) rfl (by simp only [zEA, Nat.reduceShiftRight, Nat.reduceMod, Nat.reduceEqDiff, Nat.reduceAdd, ↓reduceIte, reduceCtorEq, argsOf_cons, argsOf_nil]) ?_
      refine goC_of hc4 ?_
      simp only [zEV, Nat.reduceShiftRight, Nat.reduceMod, Nat.reduceEqDiff, Nat.reduceAdd, ↓reduceIte, reduceCtorEq, hres]
      exact hK _ r4
    | bang h => rw [ht] at h; cases h
    | par h => rw [ht] at h; cases h
    | dig h => rw [ht] at h; cases h
    | nam h => rw [ht] at h; cases h
    | namx h => rw [ht] at h; cases h
  · -- bang
    have hlt : ((dropBl l).drop 1).length < l.length := by
      have := tk_lt (sg := sgU) (l := l) (by rw [ht]; simp)
      rw [ht] at this; exact this
    cases hp with
    | minus h => rw [ht] at h; cases h
    | bang h1 hp' =>
      rename_i y
      rw [ht] at hp'
      obtain ⟨S2, hc2, r2, n2, f2⟩ := callR_eatF h24 hl hs hd hr (p := [45]) (by decide) p1
      refine go_call _ _ _ _ _ _ (ws := [.c (.ptr b 0), .c (.str (Str.ofL [45]))]) rfl (by simp only [zEA, Nat.reduceShiftRight, Nat.reduceMod, Nat.reduceEqDiff, Nat.reduceAdd, ↓reduceIte, reduceCtorEq, argsOf_cons, argsOf_nil, lit_minus]) ?_
      refine goC_of hc2 ?_
      obtain ⟨S3, hc3, r3, n3, f3⟩ := callR_eatT h24 hql hs hd r2 (p := [33]) (by decide) (by rw [hidem]; exact p2)
      rw [hidem] at r3
      simp only [zEV, Nat.reduceShiftRight, Nat.reduceMod, Nat.reduceEqDiff, Nat.reduceAdd, ↓reduceIte, reduceCtorEq, lit_bang]
      refine go_call _ _ _ _ _ _ (ws := [.c (.ptr b 0), .c (.str (Str.ofL [33]))]) rfl (by simp only [zEA, Nat.reduceShiftRight, Nat.reduceMod, Nat.reduceEqDiff, Nat.reduceAdd, ↓reduceIte, reduceCtorEq, argsOf_cons, argsOf_nil, lit_bang]) ?_
      refine goC_of hc3 ?_
      obtain ⟨S4, hc4, r4, n4, f4⟩ := callR_R h49 (suf_drop2 hql 1) hs hv ho (show ((dropBl l).drop 1).length < n by omega) hp' r3
      simp only [zEV, Nat.reduceShiftRight, Nat.reduceMod, Nat.reduceEqDiff, Nat.reduceAdd, ↓reduceIte, reduceCtorEq]
      refine go_call _ _ _ _ _ _ (ws := [.c (.ptr b 0)]) rfl (by simp only [zEA, Nat.reduceShiftRight, Nat.reduceMod, Nat.reduceEqDiff, Nat.reduceAdd, ↓reduceIte, reduceCtorEq, argsOf_cons, argsOf_nil]) ?_
      refine goC_of hc4 ?_
      simp only [zEV, Nat.reduceShiftRight, Nat.reduceMod, Nat.reduceEqDiff, Nat.reduceAdd, ↓reduceIte, reduceCtorEq]
      refine go_call _ _ _ _ _ _ (ws := [.c (.bool (decide (y = 0)))]) rfl (by simp only [zEA, Nat.reduceShiftRight, Nat.reduceMod, Nat.reduceEqDiff, Nat.reduceAdd, ↓reduceIte, reduceCtorEq, argsOf_cons, argsOf_nil]) ?_
      refine goC_of (callR_yes h25 _ _) ?_
      simp only [zEV, Nat.reduceShiftRight, Nat.reduceMod, Nat.reduceEqDiff, Nat.reduceAdd, ↓reduceIte, reduceCtorEq, hres]
      exact hK _ r4
    | par h => rw [ht] at h; cases h
    | dig h => rw [ht] at h; cases h
    | nam h => rw [ht] at h; cases h
    | namx h => rw [ht] at h; cases h
  · -- parentheses
    have hlt : ((dropBl l).drop 1).length < l.length := by
      have := tk_lt (sg := sgU) (l := l) (by rw [ht]; simp)
      rw [ht] at this; exact this
    cases hp with
    | minus h => rw [ht] at h; cases h
    | bang h => rw [ht] at h; cases h
    | @par _ _ _ l1 f1 _ h1 hp' =>
      rw [ht] at hp'
      obtain ⟨S2, hc2, r2, n2, f2⟩ := callR_eatF h24 hl hs hd hr (p := [45]) (by decide) p1
      refine go_call _ _ _ _ _ _ (ws := [.c (.ptr b 0), .c (.str (Str.ofL [45]))]) rfl (by simp only [zEA, Nat.reduceShiftRight, Nat.reduceMod, Nat.reduceEqDiff, Nat.reduceAdd, ↓reduceIte, reduceCtorEq, argsOf_cons, argsOf_nil, lit_minus]) ?_
      refine goC_of hc2 ?_
      obtain ⟨S3, hc3, r3, n3, f3⟩ := callR_eatF h24 hql hs hd r2 (p := [33]) (by decide) (by rw [hidem]; exact p2)
      rw [hidem] at r3
      simp only [zEV, Nat.reduceShiftRight, Nat.reduceMod, Nat.reduceEqDiff, Nat.reduceAdd, ↓reduceIte, reduceCtorEq, lit_bang]
      refine go_call _ _ _ _ _ _ (ws := [.c (.ptr b 0), .c (.str (Str.ofL [33]))]) rfl (by simp only [zEA, Nat.reduceShiftRight, Nat.reduceMod, Nat.reduceEqDiff, Nat.reduceAdd, ↓reduceIte, reduceCtorEq, argsOf_cons, argsOf_nil, lit_bang]) ?_
      refine goC_of hc3 ?_
      obtain ⟨S4, hc4, r4, n4, f4⟩ := callR_eatT h24 hql hs hd r3 (p := [40]) (by decide) (by rw [hidem]; exact p3)
      rw [hidem] at r4
      simp only [zEV, Nat.reduceShiftRight, Nat.reduceMod, Nat.reduceEqDiff, Nat.reduceAdd, ↓reduceIte, reduceCtorEq, lit_par]
      refine go_call _ _ _ _ _ _ (ws := [.c (.ptr b 0), .c (.str (Str.ofL [40]))]) rfl (by simp only [zEA, Nat.reduceShiftRight, Nat.reduceMod, Nat.reduceEqDiff, Nat.reduceAdd, ↓reduceIte, reduceCtorEq, argsOf_cons, argsOf_nil, lit_par]) ?_
      refine goC_of hc4 ?_
      obtain ⟨S5, hc5, r5, n5, f5⟩ := callR_R h13 (suf_drop2 hql 1) hs hv ho (show ((dropBl l).drop 1).length < n by omega) hp' r4
      simp only [zEV, Nat.reduceShiftRight, Nat.reduceMod, Nat.reduceEqDiff, Nat.reduceAdd, ↓reduceIte, reduceCtorEq]
      refine go_call _ _ _ _ _ _ (ws := [.c (.ptr b 0)]) rfl (by simp only [zEA, Nat.reduceShiftRight, Nat.reduceMod, Nat.reduceEqDiff, Nat.reduceAdd, ↓reduceIte, reduceCtorEq, argsOf_cons, argsOf_nil]) ?_
      refine goC_of hc5 ?_
      have hl1 := (hp'.suf).trans (suf_drop2 hql 1)
      simp only [zEV, Nat.reduceShiftRight, Nat.reduceMod, Nat.reduceEqDiff, Nat.reduceAdd, ↓reduceIte, reduceCtorEq, lit_c41]
      cases f1 with
      | true =>
        obtain ⟨S6, hc6, r6, n6, f6⟩ := callR_eatX h24 hl1 hs hd r5 (p := [41]) (by decide)
        refine go_call _ _ _ _ _ _ (ws := [.c (.ptr b 0), .c (.str (Str.ofL [41]))]) rfl (by simp only [zEA, Nat.reduceShiftRight, Nat.reduceMod, Nat.reduceEqDiff, Nat.reduceAdd, ↓reduceIte, reduceCtorEq, argsOf_cons, argsOf_nil, lit_c41]) ?_
        refine goC_of hc6 ?_
        rw [if_pos rfl, Bool.true_or] at hK
        obtain ⟨S7, w7, r7, n7, f7⟩ := rk_set3 r6 true
        have hc1 : ([.bool true] : List C).length = 1 := rfl
        simp only [zEV, Nat.reduceShiftRight, Nat.reduceMod, Nat.reduceEqDiff, Nat.reduceAdd, ↓reduceIte, reduceCtorEq, rNil_eq, fA_43_3, st4, hc1, w7, hres]
        exact hK _ r7
      | false =>
        rw [if_neg (by simp), Bool.false_or] at hK
        rcases tkC_cases l1 with ⟨q1, hC⟩ | ⟨q1, hC⟩
        · rw [hC] at hK
          obtain ⟨S6, hc6, r6, n6, f6⟩ := callR_eatT h24 hl1 hs hd r5 (p := [41]) (by decide) q1
          refine go_call _ _ _ _ _ _ (ws := [.c (.ptr b 0), .c (.str (Str.ofL [41]))]) rfl (by simp only [zEA, Nat.reduceShiftRight, Nat.reduceMod, Nat.reduceEqDiff, Nat.reduceAdd, ↓reduceIte, reduceCtorEq, argsOf_cons, argsOf_nil, lit_c41]) ?_
          refine goC_of hc6 ?_
          have hz : (([41] : List UInt8) == []) = false := rfl
          rw [hz] at hK
          have c3 := rk3 r6
          obtain ⟨S7, w7, r7, n7, f7⟩ := rk_set3 r6 false
          have hc1 : ([.bool false] : List C).length = 1 := rfl
          simp only [zEV, Nat.reduceShiftRight, Nat.reduceMod, Nat.reduceEqDiff, Nat.reduceAdd, ↓reduceIte, reduceCtorEq, rNil_eq, fA_43_3, ldh4, c3, st4, hc1, w7, hres]
          exact hK _ r7
        · rw [hC] at hK
          obtain ⟨S6, hc6, r6, n6, f6⟩ := callR_eatF h24 hl1 hs hd r5 (p := [41]) (by decide) q1
          refine go_call _ _ _ _ _ _ (ws := [.c (.ptr b 0), .c (.str (Str.ofL [41]))]) rfl (by simp only [zEA, Nat.reduceShiftRight, Nat.reduceMod, Nat.reduceEqDiff, Nat.reduceAdd, ↓reduceIte, reduceCtorEq, argsOf_cons, argsOf_nil, lit_c41]) ?_
          refine goC_of hc6 ?_
          have hz : (([] : List UInt8) == []) = true := rfl
          rw [hz] at hK
          obtain ⟨S7, w7, r7, n7, f7⟩ := rk_set3 r6 true
          have hc1 : ([.bool true] : List C).length = 1 := rfl
          simp only [zEV, Nat.reduceShiftRight, Nat.reduceMod, Nat.reduceEqDiff, Nat.reduceAdd, ↓reduceIte, reduceCtorEq, rNil_eq, fA_43_3, st4, hc1, w7, hres]
          exact hK _ r7
    | dig h => rw [ht] at h; cases h
    | nam h => rw [ht] at h; cases h
    | namx h => rw [ht] at h; cases h
  · -- a number, a name
    obtain ⟨S2, hc2, r2, n2, f2⟩ := callR_eatF h24 hl hs hd hr (p := [45]) (by decide) p1
    refine go_call _ _ _ _ _ _ (ws := [.c (.ptr b 0), .c (.str (Str.ofL [45]))]) rfl (by simp only [zEA, Nat.reduceShiftRight, Nat.reduceMod, Nat.reduceEqDiff, Nat.reduceAdd, ↓reduceIte, reduceCtorEq, argsOf_cons, argsOf_nil, lit_minus]) ?_
    refine goC_of hc2 ?_
    obtain ⟨S3, hc3, r3, n3, f3⟩ := callR_eatF h24 hql hs hd r2 (p := [33]) (by decide) (by rw [hidem]; exact p2)
    rw [hidem] at r3
    simp only [zEV, Nat.reduceShiftRight, Nat.reduceMod, Nat.reduceEqDiff, Nat.reduceAdd, ↓reduceIte, reduceCtorEq, lit_bang]
    refine go_call _ _ _ _ _ _ (ws := [.c (.ptr b 0), .c (.str (Str.ofL [33]))]) rfl (by simp only [zEA, Nat.reduceShiftRight, Nat.reduceMod, Nat.reduceEqDiff, Nat.reduceAdd, ↓reduceIte, reduceCtorEq, argsOf_cons, argsOf_nil, lit_bang]) ?_
    refine goC_of hc3 ?_
    obtain ⟨S4, hc4, r4, n4, f4⟩ := callR_eatF h24 hql hs hd r3 (p := [40]) (by decide) (by rw [hidem]; exact p3)
    rw [hidem] at r4
    simp only [zEV, Nat.reduceShiftRight, Nat.reduceMod, Nat.reduceEqDiff, Nat.reduceAdd, ↓reduceIte, reduceCtorEq, lit_par]
    refine go_call _ _ _ _ _ _ (ws := [.c (.ptr b 0), .c (.str (Str.ofL [40]))]) rfl (by simp only [zEA, Nat.reduceShiftRight, Nat.reduceMod, Nat.reduceEqDiff, Nat.reduceAdd, ↓reduceIte, reduceCtorEq, argsOf_cons, argsOf_nil, lit_par]) ?_
    refine goC_of hc4 ?_
    obtain ⟨S5, hc5, r5, n5, f5⟩ := callR_sk h14 hql (by omega) hd r4
    rw [hidem] at r5 hc5
    rw [show (if false = true then 0 else headN (dropBl l)) = headN (dropBl l) from rfl] at hc5
    simp only [zEV, Nat.reduceShiftRight, Nat.reduceMod, Nat.reduceEqDiff, Nat.reduceAdd, ↓reduceIte, reduceCtorEq]
    refine go_call _ _ _ _ _ _ (ws := [.c (.ptr b 0)]) rfl (by simp only [zEA, Nat.reduceShiftRight, Nat.reduceMod, Nat.reduceEqDiff, Nat.reduceAdd, ↓reduceIte, reduceCtorEq, argsOf_cons, argsOf_nil]) ?_
    refine goC_of hc5 ?_
    have hx : (tk sgU l).1 = [] ∧ (tk sgU l).2 = dropBl l := by rw [ht]; exact ⟨rfl, rfl⟩
    obtain ⟨j, hj, hjq⟩ := suf_drop hql
    clear hc2 hc3 hc4 hc5 r2 r3 r4
    have hr5 : LRow S5 b (cellsD (rkD s j d false m)) := by rw [hjq, rk_at hj] at r5; exact r5
    have c1 := rk1 hr5
    by_cases hdg : tw digN (dropBl l) = []
    · -- a name
      have hnd : digN (headN (dropBl l)) = false := by
        cases hq : dropBl l with
        | nil => rfl
        | cons c r =>
          rw [hq] at hdg
          cases h : digN c.toNat with
          | false => exact h
          | true => unfold tw at hdg; rw [List.takeWhile_cons, if_pos h] at hdg; cases hdg
      have htl := tw_le moreN (dropBl l)
      have hql2 : (dropBl l).length = s.length - j := by rw [hjq, List.length_drop]
      have hasc : asc (tw moreN (dropBl l)) := tw_all moreN _
      have hR : (nameB (tw moreN (dropBl l)) = true ∧ ∀ {i : Nat}, (tw moreN (dropBl l)).length = i → ∀ S', LRow S' b (cellsD (rkD s (j + i) d false (m || !(valV (tw moreN (dropBl l)) vs).2))) → K (.w (.c (.int .i64 (valV (tw moreN (dropBl l)) vs).1))) S') ∨
          (nameB (tw moreN (dropBl l)) = false ∧ ∀ {i : Nat}, (tw moreN (dropBl l)).length = i → ∀ S', LRow S' b (cellsD (rkD s (j + i) d true m)) → K (.w (.c (.int .i64 0))) S') := by
        have hat : ∀ {i : Nat}, (tw moreN (dropBl l)).length = i → ∀ f m, rkL s ((dropBl l).drop (tw moreN (dropBl l)).length) d f m = rkD s (j + i) d f m := fun he f m => by
          rw [he, hjq, List.drop_drop, rk_at (by omega)]
        cases hp with
        | minus h => rw [ht] at h; cases h
        | bang h => rw [ht] at h; cases h
        | par h => rw [ht] at h; cases h
        | dig _ h => rw [ht] at h; exact absurd hdg h
        | nam h1 h2 h3 =>
          rw [ht] at h3 hK
          refine .inl ⟨h3, fun he S' h => hK S' ?_⟩
          rw [hat he]; exact h
        | namx h1 h2 h3 =>
          rw [ht] at h3 hK
          refine .inr ⟨h3, fun he S' h => hK S' ?_⟩
          rw [hat he]; exact h
      clear hK
      by_cases v1 : 48 ≤ headN (dropBl l)
      · have v2 : ¬ headN (dropBl l) ≤ 57 := fun h => by
          have : digN (headN (dropBl l)) = true := by unfold digN; rw [Nat.ble_eq_true_of_le v1, Nat.ble_eq_true_of_le h]; rfl
          rw [hnd] at this; cases this
        have e1 : (48 ≤ Int.ofNat (headN (dropBl l))) = True := eq_true (by show (48 : Int) ≤ ((headN (dropBl l) : Nat) : Int); omega)
        have e2 : (Int.ofNat (headN (dropBl l)) ≤ 57) = False := eq_false (by show ¬ ((headN (dropBl l) : Nat) : Int) ≤ 57; omega)
        simp only [zEV, Nat.reduceShiftRight, Nat.reduceMod, Nat.reduceEqDiff, Nat.reduceAdd, ↓reduceIte, reduceCtorEq, rNil_eq, fA_43_1, ldh3, c1, e1, e2]
        refine go_loop (goL_inv (fun n' a' S' => ∃ i, n' = (tw moreN (dropBl l)).length - i ∧ i ≤ (tw moreN (dropBl l)).length ∧ Has a' 0 (vc (.ptr b 0)) ∧ Has a' 5 (vc (.int .i64 (Int.ofNat j))) ∧ LRow S' b (cellsD (rkD s (j + i) d false m))) (n := (tw moreN (dropBl l)).length)
          ⟨0, rfl, Nat.zero_le _, ⟨rfl, rfl⟩, ⟨rfl, rfl⟩, hr5⟩ ?_)
        rintro n' a' S' ⟨i, rfl, hi, ⟨g0, k0⟩, ⟨g5, k5⟩, r6⟩
        have d0 := rk0 r6
        have d1 := rk1 r6
        have d3 := rk3 r6
        have hsl : (tw moreN (dropBl l)).length = i → ∀ look, slice (En X) 9 (.str (Str.ofL s)) (some (.int .i64 (Int.ofNat j))) (some (.int .i64 (Int.ofNat (j + i)))) none look = some (.str (Str.ofL (tw moreN (dropBl l)))) := fun he look => by
          rw [slice_smid X look s (by omega) (by omega), ← hjq, show j + i - j = (tw moreN (dropBl l)).length by omega, tw_take]
        by_cases hlt : j + i < s.length
        · have hlt' : (Int.ofNat (j + i) < Int.ofNat s.length) = True := eq_true (Int.ofNat_lt.2 hlt)
          obtain ⟨c, hc⟩ : ∃ c, s[j + i]? = some c := ⟨_, List.getElem?_eq_getElem hlt⟩
          have hix := index_str X s hc
          have hqc : (dropBl l)[i]? = some c := by rw [hjq, drop_get]; exact hc
          have hst := tw_step moreN (dropBl l) i c hi hqc
          simp only [zEV, Nat.reduceShiftRight, Nat.reduceMod, Nat.reduceEqDiff, Nat.reduceAdd, ↓reduceIte, reduceCtorEq, g0, k0, g5, k5]
          refine go_drawD _ _ 23 23 [0, 1, 3, 7, 0, 16, 48, 112, 240, 511, 1023, 2047, 4095, 8191, 16383, 2047, 34815, 100351, 231423, 524287, 1048575, 2097151, 4194303] rfl (by kernel_rfl) (by kernel_rfl) (by kernel_rfl) ?_
          simp only [zEV, Nat.reduceShiftRight, Nat.reduceMod, Nat.reduceEqDiff, Nat.reduceAdd, ↓reduceIte, reduceCtorEq, zDH, Nat.reduceOr, Nat.reduceAnd, Nat.reduceShiftLeft, Nat.reduceLT, g0, k0, g5, k5, rNil_eq, fA_43_0, fA_43_1, ldh3, ldh9, d0, d1, len_str, hlt', rIndex_eq, hix, dg_convert, isNew21, cv5, rConvert_eq]
          refine dg_call _ _ _ _ _ _ (ws := [.c (.int .i32 (Int.ofNat c.toNat))]) rfl (by simp only [zEA, Nat.reduceShiftRight, Nat.reduceMod, Nat.reduceEqDiff, Nat.reduceAdd, ↓reduceIte, reduceCtorEq, argsOf_cons, argsOf_nil]) (callR_B1 h67 c.toNat_lt _) (by decide) (by simp only [zEV, Nat.reduceShiftRight, Nat.reduceMod, Nat.reduceEqDiff, Nat.reduceAdd, ↓reduceIte, reduceCtorEq, zDH, Nat.reduceOr, Nat.reduceAnd, Nat.reduceShiftLeft, Nat.reduceLT]) ?_
          cases hdc : moreN c.toNat with
          | true =>
            have hsu := nat_succ (show j + i < 9223372036854775807 by omega)
            have hl1 : ([.int .i64 (Int.ofNat (j + i + 1))] : List C).length = 1 := rfl
            obtain ⟨S7, w7, r7, n7, f7⟩ := rk_set1 (S := ⟨S'.h, S'.nx + 23⟩) (r6.keep rfl) (j + i + 1)
            simp only [zEV, Nat.reduceShiftRight, Nat.reduceMod, Nat.reduceEqDiff, Nat.reduceAdd, ↓reduceIte, reduceCtorEq, zDH, Nat.reduceOr, Nat.reduceAnd, Nat.reduceShiftLeft, Nat.reduceLT, g0, k0, g5, k5, hdc]
            simp only [zEV, Nat.reduceShiftRight, Nat.reduceMod, Nat.reduceEqDiff, Nat.reduceAdd, ↓reduceIte, reduceCtorEq, g0, k0, g5, k5, rNil_eq, fA_43_0, fA_43_1, ldh3, d1, hsu, st3, hl1, w7]
            refine ⟨_, ?_, i + 1, rfl, hst.1 hdc, ⟨?_, ?_⟩, ⟨?_, ?_⟩, r7⟩
            all_goals first | (simp only [zEA, Nat.reduceShiftRight, Nat.reduceMod, Nat.reduceEqDiff, Nat.reduceAdd, ↓reduceIte, reduceCtorEq, g0, k0, g5, k5]; done) | (have := hst.1 hdc; omega)
          | false =>
            have hend := hst.2 hdc
            simp only [zEV, Nat.reduceShiftRight, Nat.reduceMod, Nat.reduceEqDiff, Nat.reduceAdd, ↓reduceIte, reduceCtorEq, zDH, Nat.reduceOr, Nat.reduceAnd, Nat.reduceShiftLeft, Nat.reduceLT, g0, k0, g5, k5, hdc]
            refine go_drawD _ _ 18 18 [0, 1, 3, 7, 15, 31, 63, 127, 255, 31, 31, 1055, 3103, 7199, 16383, 32767, 65535, 131071] rfl (by kernel_rfl) (by kernel_rfl) (by kernel_rfl) ?_
            simp only [zEV, Nat.reduceShiftRight, Nat.reduceMod, Nat.reduceEqDiff, Nat.reduceAdd, ↓reduceIte, reduceCtorEq, zDH, Nat.reduceOr, Nat.reduceAnd, Nat.reduceShiftLeft, Nat.reduceLT, g0, k0, g5, k5, rNil_eq, fA_43_0, fA_43_1, fA_43_3, ldh3, ldh4, ldh9, d0, d1, d3, rSlice_lh, hsl hend]
            refine dg_call _ _ _ _ _ _ (ws := [.c (.str (Str.ofL (tw moreN (dropBl l))))]) rfl (by simp only [zEA, Nat.reduceShiftRight, Nat.reduceMod, Nat.reduceEqDiff, Nat.reduceAdd, ↓reduceIte, reduceCtorEq, argsOf_cons, argsOf_nil]) (callR_nm h68 _ hasc (by omega) _) (by decide) (by simp only [zEV, Nat.reduceShiftRight, Nat.reduceMod, Nat.reduceEqDiff, Nat.reduceAdd, ↓reduceIte, reduceCtorEq, zDH, Nat.reduceOr, Nat.reduceAnd, Nat.reduceShiftLeft, Nat.reduceLT]) ?_
            rcases hR with ⟨hnb, hfin⟩ | ⟨hnb, hfin⟩
            · simp only [zEV, Nat.reduceShiftRight, Nat.reduceMod, Nat.reduceEqDiff, Nat.reduceAdd, ↓reduceIte, reduceCtorEq, zDH, Nat.reduceOr, Nat.reduceAnd, Nat.reduceShiftLeft, Nat.reduceLT, g0, k0, g5, k5, hnb]
              refine go_drawD _ _ 12 13 [0, 0, 2, 6, 14, 0, 0, 64, 192, 448, 1022, 2047, 4095] rfl (by kernel_rfl) (by kernel_rfl) (by kernel_rfl) ?_
              obtain ⟨S9, hc9, r9, n9, f9⟩ := callR_vl h69 hv ho (tw moreN (dropBl l)) (S := ⟨S'.h, S'.nx + 23 + 18 + 13⟩) (r6.keep rfl)
              simp only [zEV, Nat.reduceShiftRight, Nat.reduceMod, Nat.reduceEqDiff, Nat.reduceAdd, ↓reduceIte, reduceCtorEq, zDH, Nat.reduceOr, Nat.reduceAnd, Nat.reduceShiftLeft, Nat.reduceLT, g0, k0, g5, k5, rNil_eq, fA_43_0, fA_43_1, fA_43_3, ldh3, ldh4, ldh9, d0, d1, d3, rSlice_lh, hsl hend]
              refine dg_call _ _ _ _ _ _ (ws := [.c (.ptr b 0), .c (.str (Str.ofL (tw moreN (dropBl l))))]) rfl (by simp only [zEA, Nat.reduceShiftRight, Nat.reduceMod, Nat.reduceEqDiff, Nat.reduceAdd, ↓reduceIte, reduceCtorEq, argsOf_cons, argsOf_nil]) hc9 (by decide) (by simp only [zEV, Nat.reduceShiftRight, Nat.reduceMod, Nat.reduceEqDiff, Nat.reduceAdd, ↓reduceIte, reduceCtorEq, zDH, Nat.reduceOr, Nat.reduceAnd, Nat.reduceShiftLeft, Nat.reduceLT]) ?_
              simp only [zEV, Nat.reduceShiftRight, Nat.reduceMod, Nat.reduceEqDiff, Nat.reduceAdd, ↓reduceIte, reduceCtorEq, zDH, Nat.reduceOr, Nat.reduceAnd, Nat.reduceShiftLeft, Nat.reduceLT, g0, k0, g5, k5, hres]
              exact hfin hend _ r9
            · simp only [zEV, Nat.reduceShiftRight, Nat.reduceMod, Nat.reduceEqDiff, Nat.reduceAdd, ↓reduceIte, reduceCtorEq, zDH, Nat.reduceOr, Nat.reduceAnd, Nat.reduceShiftLeft, Nat.reduceLT, g0, k0, g5, k5, hnb]
              have hc1 : ([.bool true] : List C).length = 1 := rfl
              obtain ⟨S9, w9, r9, n9, f9⟩ := rk_set3 (S := ⟨S'.h, S'.nx + 23 + 18⟩) (r6.keep rfl) true
              simp only [zEV, Nat.reduceShiftRight, Nat.reduceMod, Nat.reduceEqDiff, Nat.reduceAdd, ↓reduceIte, reduceCtorEq, g0, k0, g5, k5, rNil_eq, fA_43_3, st4, hc1, w9, hres]
              exact hfin hend _ r9
        · have hlt' : (Int.ofNat (j + i) < Int.ofNat s.length) = False := eq_false (fun h => hlt (Int.ofNat_lt.1 h))
          have hend : (tw moreN (dropBl l)).length = i := by omega
          simp only [zEV, Nat.reduceShiftRight, Nat.reduceMod, Nat.reduceEqDiff, Nat.reduceAdd, ↓reduceIte, reduceCtorEq, g0, k0, g5, k5]
          refine go_drawD _ _ 23 23 [0, 1, 3, 7, 0, 16, 48, 112, 240, 511, 1023, 2047, 4095, 8191, 16383, 2047, 34815, 100351, 231423, 524287, 1048575, 2097151, 4194303] rfl (by kernel_rfl) (by kernel_rfl) (by kernel_rfl) ?_
          simp only [zEV, Nat.reduceShiftRight, Nat.reduceMod, Nat.reduceEqDiff, Nat.reduceAdd, ↓reduceIte, reduceCtorEq, zDH, Nat.reduceOr, Nat.reduceAnd, Nat.reduceShiftLeft, Nat.reduceLT, g0, k0, g5, k5, rNil_eq, fA_43_0, fA_43_1, ldh3, ldh9, d0, d1, len_str, hlt']
          refine go_drawD _ _ 18 18 [0, 1, 3, 7, 15, 31, 63, 127, 255, 31, 31, 1055, 3103, 7199, 16383, 32767, 65535, 131071] rfl (by kernel_rfl) (by kernel_rfl) (by kernel_rfl) ?_
          simp only [zEV, Nat.reduceShiftRight, Nat.reduceMod, Nat.reduceEqDiff, Nat.reduceAdd, ↓reduceIte, reduceCtorEq, zDH, Nat.reduceOr, Nat.reduceAnd, Nat.reduceShiftLeft, Nat.reduceLT, g0, k0, g5, k5, rNil_eq, fA_43_0, fA_43_1, fA_43_3, ldh3, ldh4, ldh9, d0, d1, d3, rSlice_lh, hsl hend]
          refine dg_call _ _ _ _ _ _ (ws := [.c (.str (Str.ofL (tw moreN (dropBl l))))]) rfl (by simp only [zEA, Nat.reduceShiftRight, Nat.reduceMod, Nat.reduceEqDiff, Nat.reduceAdd, ↓reduceIte, reduceCtorEq, argsOf_cons, argsOf_nil]) (callR_nm h68 _ hasc (by omega) _) (by decide) (by simp only [zEV, Nat.reduceShiftRight, Nat.reduceMod, Nat.reduceEqDiff, Nat.reduceAdd, ↓reduceIte, reduceCtorEq, zDH, Nat.reduceOr, Nat.reduceAnd, Nat.reduceShiftLeft, Nat.reduceLT]) ?_
          rcases hR with ⟨hnb, hfin⟩ | ⟨hnb, hfin⟩
          · simp only [zEV, Nat.reduceShiftRight, Nat.reduceMod, Nat.reduceEqDiff, Nat.reduceAdd, ↓reduceIte, reduceCtorEq, zDH, Nat.reduceOr, Nat.reduceAnd, Nat.reduceShiftLeft, Nat.reduceLT, g0, k0, g5, k5, hnb]
            refine go_drawD _ _ 12 13 [0, 0, 2, 6, 14, 0, 0, 64, 192, 448, 1022, 2047, 4095] rfl (by kernel_rfl) (by kernel_rfl) (by kernel_rfl) ?_
            obtain ⟨S9, hc9, r9, n9, f9⟩ := callR_vl h69 hv ho (tw moreN (dropBl l)) (S := ⟨S'.h, S'.nx + 23 + 18 + 13⟩) (r6.keep rfl)
            simp only [zEV, Nat.reduceShiftRight, Nat.reduceMod, Nat.reduceEqDiff, Nat.reduceAdd, ↓reduceIte, reduceCtorEq, zDH, Nat.reduceOr, Nat.reduceAnd, Nat.reduceShiftLeft, Nat.reduceLT, g0, k0, g5, k5, rNil_eq, fA_43_0, fA_43_1, fA_43_3, ldh3, ldh4, ldh9, d0, d1, d3, rSlice_lh, hsl hend]
            refine dg_call _ _ _ _ _ _ (ws := [.c (.ptr b 0), .c (.str (Str.ofL (tw moreN (dropBl l))))]) rfl (by simp only [zEA, Nat.reduceShiftRight, Nat.reduceMod, Nat.reduceEqDiff, Nat.reduceAdd, ↓reduceIte, reduceCtorEq, argsOf_cons, argsOf_nil]) hc9 (by decide) (by simp only [zEV, Nat.reduceShiftRight, Nat.reduceMod, Nat.reduceEqDiff, Nat.reduceAdd, ↓reduceIte, reduceCtorEq, zDH, Nat.reduceOr, Nat.reduceAnd, Nat.reduceShiftLeft, Nat.reduceLT]) ?_
            simp only [zEV, Nat.reduceShiftRight, Nat.reduceMod, Nat.reduceEqDiff, Nat.reduceAdd, ↓reduceIte, reduceCtorEq, zDH, Nat.reduceOr, Nat.reduceAnd, Nat.reduceShiftLeft, Nat.reduceLT, g0, k0, g5, k5, hres]
            exact hfin hend _ r9
          · simp only [zEV, Nat.reduceShiftRight, Nat.reduceMod, Nat.reduceEqDiff, Nat.reduceAdd, ↓reduceIte, reduceCtorEq, zDH, Nat.reduceOr, Nat.reduceAnd, Nat.reduceShiftLeft, Nat.reduceLT, g0, k0, g5, k5, hnb]
            have hc1 : ([.bool true] : List C).length = 1 := rfl
            obtain ⟨S9, w9, r9, n9, f9⟩ := rk_set3 (S := ⟨S'.h, S'.nx + 23 + 18⟩) (r6.keep rfl) true
            simp only [zEV, Nat.reduceShiftRight, Nat.reduceMod, Nat.reduceEqDiff, Nat.reduceAdd, ↓reduceIte, reduceCtorEq, g0, k0, g5, k5, rNil_eq, fA_43_3, st4, hc1, w9, hres]
            exact hfin hend _ r9
      · have e1 : (48 ≤ Int.ofNat (headN (dropBl l))) = False := eq_false (by show ¬ (48 : Int) ≤ ((headN (dropBl l) : Nat) : Int); omega)
        simp only [zEV, Nat.reduceShiftRight, Nat.reduceMod, Nat.reduceEqDiff, Nat.reduceAdd, ↓reduceIte, reduceCtorEq, rNil_eq, fA_43_1, ldh3, c1, e1]
        refine go_loop (goL_inv (fun n' a' S' => ∃ i, n' = (tw moreN (dropBl l)).length - i ∧ i ≤ (tw moreN (dropBl l)).length ∧ Has a' 0 (vc (.ptr b 0)) ∧ Has a' 5 (vc (.int .i64 (Int.ofNat j))) ∧ LRow S' b (cellsD (rkD s (j + i) d false m))) (n := (tw moreN (dropBl l)).length)
          ⟨0, rfl, Nat.zero_le _, ⟨rfl, rfl⟩, ⟨rfl, rfl⟩, hr5⟩ ?_)
        rintro n' a' S' ⟨i, rfl, hi, ⟨g0, k0⟩, ⟨g5, k5⟩, r6⟩
        have d0 := rk0 r6
        have d1 := rk1 r6
        have d3 := rk3 r6
        have hsl : (tw moreN (dropBl l)).length = i → ∀ look, slice (En X) 9 (.str (Str.ofL s)) (some (.int .i64 (Int.ofNat j))) (some (.int .i64 (Int.ofNat (j + i)))) none look = some (.str (Str.ofL (tw moreN (dropBl l)))) := fun he look => by
          rw [slice_smid X look s (by omega) (by omega), ← hjq, show j + i - j = (tw moreN (dropBl l)).length by omega, tw_take]
        by_cases hlt : j + i < s.length
        · have hlt' : (Int.ofNat (j + i) < Int.ofNat s.length) = True := eq_true (Int.ofNat_lt.2 hlt)
          obtain ⟨c, hc⟩ : ∃ c, s[j + i]? = some c := ⟨_, List.getElem?_eq_getElem hlt⟩
          have hix := index_str X s hc
          have hqc : (dropBl l)[i]? = some c := by rw [hjq, drop_get]; exact hc
          have hst := tw_step moreN (dropBl l) i c hi hqc
          simp only [zEV, Nat.reduceShiftRight, Nat.reduceMod, Nat.reduceEqDiff, Nat.reduceAdd, ↓reduceIte, reduceCtorEq, g0, k0, g5, k5]
          refine go_drawD _ _ 23 23 [0, 1, 3, 7, 0, 16, 48, 112, 240, 511, 1023, 2047, 4095, 8191, 16383, 2047, 34815, 100351, 231423, 524287, 1048575, 2097151, 4194303] rfl (by kernel_rfl) (by kernel_rfl) (by kernel_rfl) ?_
          simp only [zEV, Nat.reduceShiftRight, Nat.reduceMod, Nat.reduceEqDiff, Nat.reduceAdd, ↓reduceIte, reduceCtorEq, zDH, Nat.reduceOr, Nat.reduceAnd, Nat.reduceShiftLeft, Nat.reduceLT, g0, k0, g5, k5, rNil_eq, fA_43_0, fA_43_1, ldh3, ldh9, d0, d1, len_str, hlt', rIndex_eq, hix, dg_convert, isNew21, cv5, rConvert_eq]
          refine dg_call _ _ _ _ _ _ (ws := [.c (.int .i32 (Int.ofNat c.toNat))]) rfl (by simp only [zEA, Nat.reduceShiftRight, Nat.reduceMod, Nat.reduceEqDiff, Nat.reduceAdd, ↓reduceIte, reduceCtorEq, argsOf_cons, argsOf_nil]) (callR_B1 h67 c.toNat_lt _) (by decide) (by simp only [zEV, Nat.reduceShiftRight, Nat.reduceMod, Nat.reduceEqDiff, Nat.reduceAdd, ↓reduceIte, reduceCtorEq, zDH, Nat.reduceOr, Nat.reduceAnd, Nat.reduceShiftLeft, Nat.reduceLT]) ?_
          cases hdc : moreN c.toNat with
          | true =>
            have hsu := nat_succ (show j + i < 9223372036854775807 by omega)
            have hl1 : ([.int .i64 (Int.ofNat (j + i + 1))] : List C).length = 1 := rfl
            obtain ⟨S7, w7, r7, n7, f7⟩ := rk_set1 (S := ⟨S'.h, S'.nx + 23⟩) (r6.keep rfl) (j + i + 1)
            simp only [zEV, Nat.reduceShiftRight, Nat.reduceMod, Nat.reduceEqDiff, Nat.reduceAdd, ↓reduceIte, reduceCtorEq, zDH, Nat.reduceOr, Nat.reduceAnd, Nat.reduceShiftLeft, Nat.reduceLT, g0, k0, g5, k5, hdc]
            simp only [zEV, Nat.reduceShiftRight, Nat.reduceMod, Nat.reduceEqDiff, Nat.reduceAdd, ↓reduceIte, reduceCtorEq, g0, k0, g5, k5, rNil_eq, fA_43_0, fA_43_1, ldh3, d1, hsu, st3, hl1, w7]
            refine ⟨_, ?_, i + 1, rfl, hst.1 hdc, ⟨?_, ?_⟩, ⟨?_, ?_⟩, r7⟩
            all_goals first | (simp only [zEA, Nat.reduceShiftRight, Nat.reduceMod, Nat.reduceEqDiff, Nat.reduceAdd, ↓reduceIte, reduceCtorEq, g0, k0, g5, k5]; done) | (have := hst.1 hdc; omega)
          | false =>
            have hend := hst.2 hdc
            simp only [zEV, Nat.reduceShiftRight, Nat.reduceMod, Nat.reduceEqDiff, Nat.reduceAdd, ↓reduceIte, reduceCtorEq, zDH, Nat.reduceOr, Nat.reduceAnd, Nat.reduceShiftLeft, Nat.reduceLT, g0, k0, g5, k5, hdc]
            refine go_drawD _ _ 18 18 [0, 1, 3, 7, 15, 31, 63, 127, 255, 31, 31, 1055, 3103, 7199, 16383, 32767, 65535, 131071] rfl (by kernel_rfl) (by kernel_rfl) (by kernel_rfl) ?_
            simp only [zEV, Nat.reduceShiftRight, Nat.reduceMod, Nat.reduceEqDiff, Nat.reduceAdd, ↓reduceIte, reduceCtorEq, zDH, Nat.reduceOr, Nat.reduceAnd, Nat.reduceShiftLeft, Nat.reduceLT, g0, k0, g5, k5, rNil_eq, fA_43_0, fA_43_1, fA_43_3, ldh3, ldh4, ldh9, d0, d1, d3, rSlice_lh, hsl hend]
            refine dg_call _ _ _ _ _ _ (ws := [.c (.str (Str.ofL (tw moreN (dropBl l))))]) rfl (by simp only [zEA, Nat.reduceShiftRight, Nat.reduceMod, Nat.reduceEqDiff, Nat.reduceAdd, ↓reduceIte, reduceCtorEq, argsOf_cons, argsOf_nil]) (callR_nm h68 _ hasc (by omega) _) (by decide) (by simp only [zEV, Nat.reduceShiftRight, Nat.reduceMod, Nat.reduceEqDiff, Nat.reduceAdd, ↓reduceIte, reduceCtorEq, zDH, Nat.reduceOr, Nat.reduceAnd, Nat.reduceShiftLeft, Nat.reduceLT]) ?_
            rcases hR with ⟨hnb, hfin⟩ | ⟨hnb, hfin⟩
            · simp only [zEV, Nat.reduceShiftRight, Nat.reduceMod, Nat.reduceEqDiff, Nat.reduceAdd, ↓reduceIte, reduceCtorEq, zDH, Nat.reduceOr, Nat.reduceAnd, Nat.reduceShiftLeft, Nat.reduceLT, g0, k0, g5, k5, hnb]
              refine go_drawD _ _ 12 13 [0, 0, 2, 6, 14, 0, 0, 64, 192, 448, 1022, 2047, 4095] rfl (by kernel_rfl) (by kernel_rfl) (by kernel_rfl) ?_
              obtain ⟨S9, hc9, r9, n9, f9⟩ := callR_vl h69 hv ho (tw moreN (dropBl l)) (S := ⟨S'.h, S'.nx + 23 + 18 + 13⟩) (r6.keep rfl)
              simp only [zEV, Nat.reduceShiftRight, Nat.reduceMod, Nat.reduceEqDiff, Nat.reduceAdd, ↓reduceIte, reduceCtorEq, zDH, Nat.reduceOr, Nat.reduceAnd, Nat.reduceShiftLeft, Nat.reduceLT, g0, k0, g5, k5, rNil_eq, fA_43_0, fA_43_1, fA_43_3, ldh3, ldh4, ldh9, d0, d1, d3, rSlice_lh, hsl hend]
              refine dg_call _ _ _ _ _ _ (ws := [.c (.ptr b 0), .c (.str (Str.ofL (tw moreN (dropBl l))))]) rfl (by simp only [zEA, Nat.reduceShiftRight, Nat.reduceMod, Nat.reduceEqDiff, Nat.reduceAdd, ↓reduceIte, reduceCtorEq, argsOf_cons, argsOf_nil]) hc9 (by decide) (by simp only [zEV, Nat.reduceShiftRight, Nat.reduceMod, Nat.reduceEqDiff, Nat.reduceAdd, ↓reduceIte, reduceCtorEq, zDH, Nat.reduceOr, Nat.reduceAnd, Nat.reduceShiftLeft, Nat.reduceLT]) ?_
              simp only [zEV, Nat.reduceShiftRight, Nat.reduceMod, Nat.reduceEqDiff, Nat.reduceAdd, ↓reduceIte, reduceCtorEq, zDH, Nat.reduceOr, Nat.reduceAnd, Nat.reduceShiftLeft, Nat.reduceLT, g0, k0, g5, k5, hres]
              exact hfin hend _ r9
            · simp only [zEV, Nat.reduceShiftRight, Nat.reduceMod, Nat.reduceEqDiff, Nat.reduceAdd, ↓reduceIte, reduceCtorEq, zDH, Nat.reduceOr, Nat.reduceAnd, Nat.reduceShiftLeft, Nat.reduceLT, g0, k0, g5, k5, hnb]
              have hc1 : ([.bool true] : List C).length = 1 := rfl
              obtain ⟨S9, w9, r9, n9, f9⟩ := rk_set3 (S := ⟨S'.h, S'.nx + 23 + 18⟩) (r6.keep rfl) true
              simp only [zEV, Nat.reduceShiftRight, Nat.reduceMod, Nat.reduceEqDiff, Nat.reduceAdd, ↓reduceIte, reduceCtorEq, g0, k0, g5, k5, rNil_eq, fA_43_3, st4, hc1, w9, hres]
              exact hfin hend _ r9
        · have hlt' : (Int.ofNat (j + i) < Int.ofNat s.length) = False := eq_false (fun h => hlt (Int.ofNat_lt.1 h))
          have hend : (tw moreN (dropBl l)).length = i := by omega
          simp only [zEV, Nat.reduceShiftRight, Nat.reduceMod, Nat.reduceEqDiff, Nat.reduceAdd, ↓reduceIte, reduceCtorEq, g0, k0, g5, k5]
          refine go_drawD _ _ 23 23 [0, 1, 3, 7, 0, 16, 48, 112, 240, 511, 1023, 2047, 4095, 8191, 16383, 2047, 34815, 100351, 231423, 524287, 1048575, 2097151, 4194303] rfl (by kernel_rfl) (by kernel_rfl) (by kernel_rfl) ?_
          simp only [zEV, Nat.reduceShiftRight, Nat.reduceMod, Nat.reduceEqDiff, Nat.reduceAdd, ↓reduceIte, reduceCtorEq, zDH, Nat.reduceOr, Nat.reduceAnd, Nat.reduceShiftLeft, Nat.reduceLT, g0, k0, g5, k5, rNil_eq, fA_43_0, fA_43_1, ldh3, ldh9, d0, d1, len_str, hlt']
          refine go_drawD _ _ 18 18 [0, 1, 3, 7, 15, 31, 63, 127, 255, 31, 31, 1055, 3103, 7199, 16383, 32767, 65535, 131071] rfl (by kernel_rfl) (by kernel_rfl) (by kernel_rfl) ?_
          simp only [zEV, Nat.reduceShiftRight, Nat.reduceMod, Nat.reduceEqDiff, Nat.reduceAdd, ↓reduceIte, reduceCtorEq, zDH, Nat.reduceOr, Nat.reduceAnd, Nat.reduceShiftLeft, Nat.reduceLT, g0, k0, g5, k5, rNil_eq, fA_43_0, fA_43_1, fA_43_3, ldh3, ldh4, ldh9, d0, d1, d3, rSlice_lh, hsl hend]
          refine dg_call _ _ _ _ _ _ (ws := [.c (.str (Str.ofL (tw moreN (dropBl l))))]) rfl (by simp only [zEA, Nat.reduceShiftRight, Nat.reduceMod, Nat.reduceEqDiff, Nat.reduceAdd, ↓reduceIte, reduceCtorEq, argsOf_cons, argsOf_nil]) (callR_nm h68 _ hasc (by omega) _) (by decide) (by simp only [zEV, Nat.reduceShiftRight, Nat.reduceMod, Nat.reduceEqDiff, Nat.reduceAdd, ↓reduceIte, reduceCtorEq, zDH, Nat.reduceOr, Nat.reduceAnd, Nat.reduceShiftLeft, Nat.reduceLT]) ?_
          rcases hR with ⟨hnb, hfin⟩ | ⟨hnb, hfin⟩
          · simp only [zEV, Nat.reduceShiftRight, Nat.reduceMod, Nat.reduceEqDiff, Nat.reduceAdd, ↓reduceIte, reduceCtorEq, zDH, Nat.reduceOr, Nat.reduceAnd, Nat.reduceShiftLeft, Nat.reduceLT, g0, k0, g5, k5, hnb]
            refine go_drawD _ _ 12 13 [0, 0, 2, 6, 14, 0, 0, 64, 192, 448, 1022, 2047, 4095] rfl (by kernel_rfl) (by kernel_rfl) (by kernel_rfl) ?_
            obtain ⟨S9, hc9, r9, n9, f9⟩ := callR_vl h69 hv ho (tw moreN (dropBl l)) (S := ⟨S'.h, S'.nx + 23 + 18 + 13⟩) (r6.keep rfl)
            simp only [zEV, Nat.reduceShiftRight, Nat.reduceMod, Nat.reduceEqDiff, Nat.reduceAdd, ↓reduceIte, reduceCtorEq, zDH, Nat.reduceOr, Nat.reduceAnd, Nat.reduceShiftLeft, Nat.reduceLT, g0, k0, g5, k5, rNil_eq, fA_43_0, fA_43_1, fA_43_3, ldh3, ldh4, ldh9, d0, d1, d3, rSlice_lh, hsl hend]
            refine dg_call _ _ _ _ _ _ (ws := [.c (.ptr b 0), .c (.str (Str.ofL (tw moreN (dropBl l))))]) rfl (by simp only [zEA, Nat.reduceShiftRight, Nat.reduceMod, Nat.reduceEqDiff, Nat.reduceAdd, ↓reduceIte, reduceCtorEq, argsOf_cons, argsOf_nil]) hc9 (by decide) (by simp only [zEV, Nat.reduceShiftRight, Nat.reduceMod, Nat.reduceEqDiff, Nat.reduceAdd, ↓reduceIte, reduceCtorEq, zDH, Nat.reduceOr, Nat.reduceAnd, Nat.reduceShiftLeft, Nat.reduceLT]) ?_
            simp only [zEV, Nat.reduceShiftRight, Nat.reduceMod, Nat.reduceEqDiff, Nat.reduceAdd, ↓reduceIte, reduceCtorEq, zDH, Nat.reduceOr, Nat.reduceAnd, Nat.reduceShiftLeft, Nat.reduceLT, g0, k0, g5, k5, hres]
            exact hfin hend _ r9
          · simp only [zEV, Nat.reduceShiftRight, Nat.reduceMod, Nat.reduceEqDiff, Nat.reduceAdd, ↓reduceIte, reduceCtorEq, zDH, Nat.reduceOr, Nat.reduceAnd, Nat.reduceShiftLeft, Nat.reduceLT, g0, k0, g5, k5, hnb]
            have hc1 : ([.bool true] : List C).length = 1 := rfl
            obtain ⟨S9, w9, r9, n9, f9⟩ := rk_set3 (S := ⟨S'.h, S'.nx + 23 + 18⟩) (r6.keep rfl) true
            simp only [zEV, Nat.reduceShiftRight, Nat.reduceMod, Nat.reduceEqDiff, Nat.reduceAdd, ↓reduceIte, reduceCtorEq, g0, k0, g5, k5, rNil_eq, fA_43_3, st4, hc1, w9, hres]
            exact hfin hend _ r9
    · -- digits
      have hR : x = (refNum (tw digN (dropBl l))).getD 0 ∧ l' = (dropBl l).drop (tw digN (dropBl l)).length ∧ f' = false ∧ m' = (m || !(refNum (tw digN (dropBl l))).isSome) := by
        cases hp with
        | minus h => rw [ht] at h; cases h
        | bang h => rw [ht] at h; cases h
        | par h => rw [ht] at h; cases h
        | dig => rw [ht]; exact ⟨rfl, rfl, rfl, rfl⟩
        | nam _ h => rw [ht] at h; exact absurd h hdg
        | namx _ h => rw [ht] at h; exact absurd h hdg
      obtain ⟨rfl, rfl, rfl, rfl⟩ := hR
      obtain ⟨c0, r0, hq0, hc0⟩ : ∃ c r, dropBl l = c :: r ∧ digN c.toNat = true := by
        cases hq : dropBl l with
        | nil => rw [hq] at hdg; exact absurd rfl hdg
        | cons c r =>
          refine ⟨c, r, rfl, ?_⟩
          cases h : digN c.toNat with
          | true => rfl
          | false => rw [hq] at hdg; unfold tw at hdg; rw [List.takeWhile_cons, if_neg (by rw [h]; simp)] at hdg; exact absurd rfl hdg
      have hhead : headN (dropBl l) = c0.toNat := by rw [hq0]; rfl
      obtain ⟨w1, w2⟩ := (dig_iff2 c0).1 hc0
      have e1 : (48 ≤ Int.ofNat c0.toNat) = True := eq_true (by show (48 : Int) ≤ ((c0.toNat : Nat) : Int); omega)
      have e2 : (Int.ofNat c0.toNat ≤ 57) = True := eq_true (by show ((c0.toNat : Nat) : Int) ≤ 57; omega)
      have htl := tw_le digN (dropBl l)
      have hql2 : (dropBl l).length = s.length - j := by rw [hjq, List.length_drop]
      simp only [zEV, Nat.reduceShiftRight, Nat.reduceMod, Nat.reduceEqDiff, Nat.reduceAdd, ↓reduceIte, reduceCtorEq, hhead, rNil_eq, fA_43_1, ldh3, c1, e1, e2]
      refine go_loop (goL_inv (fun n' a' S' => ∃ i, n' = (tw digN (dropBl l)).length - i ∧ i ≤ (tw digN (dropBl l)).length ∧ Has a' 0 (vc (.ptr b 0)) ∧ Has a' 5 (vc (.int .i64 (Int.ofNat j))) ∧ LRow S' b (cellsD (rkD s (j + i) d false m))) (n := (tw digN (dropBl l)).length)
        ⟨0, rfl, Nat.zero_le _, ⟨rfl, rfl⟩, ⟨rfl, rfl⟩, hr5⟩ ?_)
      rintro n' a' S' ⟨i, rfl, hi, ⟨g0, k0⟩, ⟨g5, k5⟩, r6⟩
      have d0 := rk0 r6
      have d1 := rk1 r6
      have hsl : (tw digN (dropBl l)).length = i → ∀ look, slice (En X) 9 (.str (Str.ofL s)) (some (.int .i64 (Int.ofNat j))) (some (.int .i64 (Int.ofNat (j + i)))) none look = some (.str (Str.ofL (tw digN (dropBl l)))) := fun he look => by
        rw [slice_smid X look s (by omega) (by omega), ← hjq, show j + i - j = (tw digN (dropBl l)).length by omega, tw_take]
      have hfin : (tw digN (dropBl l)).length = i → ∀ S', LRow S' b (cellsD (rkD s (j + i) d false (m || !(refNum (tw digN (dropBl l))).isSome))) → K (.w (.c (.int .i64 ((refNum (tw digN (dropBl l))).getD 0)))) S' := fun he => by
        rw [he, hjq, List.drop_drop, rk_at (show j + i ≤ s.length by omega)] at hK
        rw [← hjq] at hK
        exact hK
      have htb : (tw digN (dropBl l)).length ≤ 140737488351232 := by omega
      by_cases hlt : j + i < s.length
      · have hlt' : (Int.ofNat (j + i) < Int.ofNat s.length) = True := eq_true (Int.ofNat_lt.2 hlt)
        obtain ⟨c, hc⟩ : ∃ c, s[j + i]? = some c := ⟨_, List.getElem?_eq_getElem hlt⟩
        have hix := index_str X s hc
        have hqc : (dropBl l)[i]? = some c := by rw [hjq, drop_get]; exact hc
        have hst := tw_step digN (dropBl l) i c hi hqc
        cases hdc : digN c.toNat with
        | true =>
          obtain ⟨v1, v2⟩ := (dig_iff2 c).1 hdc
          have a1 : (48 ≤ Int.ofNat c.toNat) = True := eq_true (by show (48 : Int) ≤ ((c.toNat : Nat) : Int); omega)
          have a2 : (Int.ofNat c.toNat ≤ 57) = True := eq_true (by show ((c.toNat : Nat) : Int) ≤ 57; omega)
          have hsu := nat_succ (show j + i < 9223372036854775807 by omega)
          have hl1 : ([.int .i64 (Int.ofNat (j + i + 1))] : List C).length = 1 := rfl
          simp only [zEV, Nat.reduceShiftRight, Nat.reduceMod, Nat.reduceEqDiff, Nat.reduceAdd, ↓reduceIte, reduceCtorEq, g0, k0, g5, k5]
          refine go_drawK _ _ (by kernel_rfl) fun nn hnn => ?_
          obtain ⟨S7, w7, r7, n7, f7⟩ := rk_set1 (S := ⟨S'.h, nn⟩) (r6.keep rfl) (j + i + 1)
          simp only [zEV, Nat.reduceShiftRight, Nat.reduceMod, Nat.reduceEqDiff, Nat.reduceAdd, ↓reduceIte, reduceCtorEq, g0, k0, g5, k5, rNil_eq, fA_43_0, fA_43_1, ldh3, ldh9, d0, d1, len_str, hlt', rIndex_eq, hix, a1, a2, hsu, st3, hl1, w7]
          refine ⟨_, ?_, i + 1, rfl, hst.1 hdc, ⟨?_, ?_⟩, ⟨?_, ?_⟩, r7⟩
          all_goals first | (simp only [zEA, Nat.reduceShiftRight, Nat.reduceMod, Nat.reduceEqDiff, Nat.reduceAdd, ↓reduceIte, reduceCtorEq, g0, k0, g5, k5]; done) | (have := hst.1 hdc; omega)
        | false =>
          have hend := hst.2 hdc
          by_cases v1 : 48 ≤ c.toNat
          · have v2 : ¬ c.toNat ≤ 57 := fun h => by rw [(dig_iff2 c).2 ⟨v1, h⟩] at hdc; cases hdc
            have a1 : (48 ≤ Int.ofNat c.toNat) = True := eq_true (by show (48 : Int) ≤ ((c.toNat : Nat) : Int); omega)
            have a2 : (Int.ofNat c.toNat ≤ 57) = False := eq_false (by show ¬ ((c.toNat : Nat) : Int) ≤ 57; omega)
            simp only [zEV, Nat.reduceShiftRight, Nat.reduceMod, Nat.reduceEqDiff, Nat.reduceAdd, ↓reduceIte, reduceCtorEq, g0, k0, g5, k5]
            refine go_drawK _ _ (by kernel_rfl) fun nn hnn => ?_
            simp only [zEV, Nat.reduceShiftRight, Nat.reduceMod, Nat.reduceEqDiff, Nat.reduceAdd, ↓reduceIte, reduceCtorEq, g0, k0, g5, k5, rNil_eq, fA_43_0, fA_43_1, ldh3, ldh9, d0, d1, len_str, hlt', rIndex_eq, hix, a1, a2]
            refine go_drawD _ _ 15 16 [0, 1, 3, 7, 0, 0, 32, 96, 224, 511, 1023, 2047, 4095, 4095, 8191, 32767] rfl (by kernel_rfl) (by kernel_rfl) (by kernel_rfl) ?_
            simp only [zEV, Nat.reduceShiftRight, Nat.reduceMod, Nat.reduceEqDiff, Nat.reduceAdd, ↓reduceIte, reduceCtorEq, zDH, Nat.reduceOr, Nat.reduceAnd, Nat.reduceShiftLeft, Nat.reduceLT, g0, k0, g5, k5, rNil_eq, fA_43_0, fA_43_1, ldh3, ldh9, d0, d1, rSlice_lh, hsl hend]
            refine dg_call _ _ _ _ _ _ (ws := [.c (.str (Str.ofL (tw digN (dropBl l))))]) rfl (by simp only [zEA, Nat.reduceShiftRight, Nat.reduceMod, Nat.reduceEqDiff, Nat.reduceAdd, ↓reduceIte, reduceCtorEq, argsOf_cons, argsOf_nil]) (callR_rn h66 _ htb _) (by decide) (by simp only [zEV, Nat.reduceShiftRight, Nat.reduceMod, Nat.reduceEqDiff, Nat.reduceAdd, ↓reduceIte, reduceCtorEq, zDH, Nat.reduceOr, Nat.reduceAnd, Nat.reduceShiftLeft, Nat.reduceLT]) ?_
            have r7 : LRow ⟨S'.h, nn + 16⟩ b (cellsD (rkD s (j + i) d false m)) := r6.keep rfl
            have d4 := rk4 r7
            cases m with
            | true =>
              obtain ⟨S8, w8, r8, n8, f8⟩ := rk_set4 r7 true
              have hc1 : ([.bool true] : List C).length = 1 := rfl
              simp only [zEV, Nat.reduceShiftRight, Nat.reduceMod, Nat.reduceEqDiff, Nat.reduceAdd, ↓reduceIte, reduceCtorEq, zDH, Nat.reduceOr, Nat.reduceAnd, Nat.reduceShiftLeft, Nat.reduceLT, g0, k0, g5, k5, rNil_eq, fA_43_4, ldh4, d4, st4, hc1, w8, hres]
              exact hfin hend _ r8
            | false =>
              obtain ⟨S8, w8, r8, n8, f8⟩ := rk_set4 r7 (!(refNum (tw digN (dropBl l))).isSome)
              have hc1 : ([.bool (!(refNum (tw digN (dropBl l))).isSome)] : List C).length = 1 := rfl
              simp only [zEV, Nat.reduceShiftRight, Nat.reduceMod, Nat.reduceEqDiff, Nat.reduceAdd, ↓reduceIte, reduceCtorEq, zDH, Nat.reduceOr, Nat.reduceAnd, Nat.reduceShiftLeft, Nat.reduceLT, g0, k0, g5, k5, rNil_eq, fA_43_4, ldh4, d4, st4, hc1, w8, hres]
              exact hfin hend _ r8
          · have a1 : (48 ≤ Int.ofNat c.toNat) = False := eq_false (by show ¬ (48 : Int) ≤ ((c.toNat : Nat) : Int); omega)
            simp only [zEV, Nat.reduceShiftRight, Nat.reduceMod, Nat.reduceEqDiff, Nat.reduceAdd, ↓reduceIte, reduceCtorEq, g0, k0, g5, k5]
            refine go_drawK _ _ (by kernel_rfl) fun nn hnn => ?_
            simp only [zEV, Nat.reduceShiftRight, Nat.reduceMod, Nat.reduceEqDiff, Nat.reduceAdd, ↓reduceIte, reduceCtorEq, g0, k0, g5, k5, rNil_eq, fA_43_0, fA_43_1, ldh3, ldh9, d0, d1, len_str, hlt', rIndex_eq, hix, a1]
            refine go_drawD _ _ 15 16 [0, 1, 3, 7, 0, 0, 32, 96, 224, 511, 1023, 2047, 4095, 4095, 8191, 32767] rfl (by kernel_rfl) (by kernel_rfl) (by kernel_rfl) ?_
            simp only [zEV, Nat.reduceShiftRight, Nat.reduceMod, Nat.reduceEqDiff, Nat.reduceAdd, ↓reduceIte, reduceCtorEq, zDH, Nat.reduceOr, Nat.reduceAnd, Nat.reduceShiftLeft, Nat.reduceLT, g0, k0, g5, k5, rNil_eq, fA_43_0, fA_43_1, ldh3, ldh9, d0, d1, rSlice_lh, hsl hend]
            refine dg_call _ _ _ _ _ _ (ws := [.c (.str (Str.ofL (tw digN (dropBl l))))]) rfl (by simp only [zEA, Nat.reduceShiftRight, Nat.reduceMod, Nat.reduceEqDiff, Nat.reduceAdd, ↓reduceIte, reduceCtorEq, argsOf_cons, argsOf_nil]) (callR_rn h66 _ htb _) (by decide) (by simp only [zEV, Nat.reduceShiftRight, Nat.reduceMod, Nat.reduceEqDiff, Nat.reduceAdd, ↓reduceIte, reduceCtorEq, zDH, Nat.reduceOr, Nat.reduceAnd, Nat.reduceShiftLeft, Nat.reduceLT]) ?_
            have r7 : LRow ⟨S'.h, nn + 16⟩ b (cellsD (rkD s (j + i) d false m)) := r6.keep rfl
            have d4 := rk4 r7
            cases m with
            | true =>
              obtain ⟨S8, w8, r8, n8, f8⟩ := rk_set4 r7 true
              have hc1 : ([.bool true] : List C).length = 1 := rfl
              simp only [zEV, Nat.reduceShiftRight, Nat.reduceMod, Nat.reduceEqDiff, Nat.reduceAdd, ↓reduceIte, reduceCtorEq, zDH, Nat.reduceOr, Nat.reduceAnd, Nat.reduceShiftLeft, Nat.reduceLT, g0, k0, g5, k5, rNil_eq, fA_43_4, ldh4, d4, st4, hc1, w8, hres]
              exact hfin hend _ r8
            | false =>
              obtain ⟨S8, w8, r8, n8, f8⟩ := rk_set4 r7 (!(refNum (tw digN (dropBl l))).isSome)
              have hc1 : ([.bool (!(refNum (tw digN (dropBl l))).isSome)] : List C).length = 1 := rfl
              simp only [zEV, Nat.reduceShiftRight, Nat.reduceMod, Nat.reduceEqDiff, Nat.reduceAdd, ↓reduceIte, reduceCtorEq, zDH, Nat.reduceOr, Nat.reduceAnd, Nat.reduceShiftLeft, Nat.reduceLT, g0, k0, g5, k5, rNil_eq, fA_43_4, ldh4, d4, st4, hc1, w8, hres]
              exact hfin hend _ r8
      · have hlt' : (Int.ofNat (j + i) < Int.ofNat s.length) = False := eq_false (fun h => hlt (Int.ofNat_lt.1 h))
        have hend : (tw digN (dropBl l)).length = i := by omega
        simp only [zEV, Nat.reduceShiftRight, Nat.reduceMod, Nat.reduceEqDiff, Nat.reduceAdd, ↓reduceIte, reduceCtorEq, g0, k0, g5, k5]
        refine go_drawK _ _ (by kernel_rfl) fun nn hnn => ?_
        simp only [zEV, Nat.reduceShiftRight, Nat.reduceMod, Nat.reduceEqDiff, Nat.reduceAdd, ↓reduceIte, reduceCtorEq, g0, k0, g5, k5, rNil_eq, fA_43_0, fA_43_1, ldh3, ldh9, d0, d1, len_str, hlt']
        refine go_drawD _ _ 15 16 [0, 1, 3, 7, 0, 0, 32, 96, 224, 511, 1023, 2047, 4095, 4095, 8191, 32767] rfl (by kernel_rfl) (by kernel_rfl) (by kernel_rfl) ?_
        simp only [zEV, Nat.reduceShiftRight, Nat.reduceMod, Nat.reduceEqDiff, Nat.reduceAdd, ↓reduceIte, reduceCtorEq, zDH, Nat.reduceOr, Nat.reduceAnd, Nat.reduceShiftLeft, Nat.reduceLT, g0, k0, g5, k5, rNil_eq, fA_43_0, fA_43_1, ldh3, ldh9, d0, d1, rSlice_lh, hsl hend]
        refine dg_call _ _ _ _ _ _ (ws := [.c (.str (Str.ofL (tw digN (dropBl l))))]) rfl (by simp only [zEA, Nat.reduceShiftRight, Nat.reduceMod, Nat.reduceEqDiff, Nat.reduceAdd, ↓reduceIte, reduceCtorEq, argsOf_cons, argsOf_nil]) (callR_rn h66 _ htb _) (by decide) (by simp only [zEV, Nat.reduceShiftRight, Nat.reduceMod, Nat.reduceEqDiff, Nat.reduceAdd, ↓reduceIte, reduceCtorEq, zDH, Nat.reduceOr, Nat.reduceAnd, Nat.reduceShiftLeft, Nat.reduceLT]) ?_
        have r7 : LRow ⟨S'.h, nn + 16⟩ b (cellsD (rkD s (j + i) d false m)) := r6.keep rfl
        have d4 := rk4 r7
        cases m with
        | true =>
          obtain ⟨S8, w8, r8, n8, f8⟩ := rk_set4 r7 true
          have hc1 : ([.bool true] : List C).length = 1 := rfl
          simp only [zEV, Nat.reduceShiftRight, Nat.reduceMod, Nat.reduceEqDiff, Nat.reduceAdd, ↓reduceIte, reduceCtorEq, zDH, Nat.reduceOr, Nat.reduceAnd, Nat.reduceShiftLeft, Nat.reduceLT, g0, k0, g5, k5, rNil_eq, fA_43_4, ldh4, d4, st4, hc1, w8, hres]
          exact hfin hend _ r8
        | false =>
          obtain ⟨S8, w8, r8, n8, f8⟩ := rk_set4 r7 (!(refNum (tw digN (dropBl l))).isSome)
          have hc1 : ([.bool (!(refNum (tw digN (dropBl l))).isSome)] : List C).length = 1 := rfl
          simp only [zEV, Nat.reduceShiftRight, Nat.reduceMod, Nat.reduceEqDiff, Nat.reduceAdd, ↓reduceIte, reduceCtorEq, zDH, Nat.reduceOr, Nat.reduceAnd, Nat.reduceShiftLeft, Nat.reduceLT, g0, k0, g5, k5, rNil_eq, fA_43_4, ldh4, d4, st4, hc1, w8, hres]
          exact hfin hend _ r8
end Ar
