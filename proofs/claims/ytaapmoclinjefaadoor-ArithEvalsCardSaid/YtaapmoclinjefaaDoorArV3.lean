import Derived.Test.YtaapmoclinjefaaDoorArV2
import Derived.Test.YtaapmoclinjefaaDoorEwL
namespace Ar
open Go Go.Proofs Ev Go.Lib Nu
set_option linter.unusedVariables false
set_option linter.unusedSimpArgs false
set_option linter.unnecessarySimpa false
set_option maxRecDepth 100000
theorem yes25 (X : T Ext) (hX : (En X).ext.get 25 = none) (c : Bool) (s : St) (K : V → St → Prop) (hK : ∀ s', K (.w (.c (.int .i64 (yesF c)))) s') : goC (En X) 25 [.c (.bool c)] s K := by
  refine goC_body hX (kp25 X) (fn25 X) rfl (by kernel_rfl) ?_
  have hres : Tryd.f25.results.toList = [.tmp 2] := rfl
  cases c <;> (simp only [zEV, Nat.reduceShiftRight, Nat.reduceMod, Nat.reduceEqDiff, Nat.reduceAdd, ↓reduceIte, reduceCtorEq, hres]; exact hK _)
def RYes (ps : List PW) (v : PV) : Prop := ∃ c, ps = [.c (.bool c)] ∧ v = .w (.c (.int .i64 (yesF c)))
noncomputable def e25 : Nat × Ext := (25, .fn (ofG RYes) [])
theorem c25 : Ok e25 := fn_of_go_g (exts := []) ok0 rfl [] rfl _ (by
  rintro ps pv ⟨c, rfl, rfl⟩
  exact yes25 _ rfl c _ _ fun s' => ⟨[], rfl⟩)
theorem callR_yes {X : T Ext} (h25 : (En X).ext.get 25 = some (.fn (ofG RYes) [])) (c : Bool) (s : St) : CallR (En X) 25 [.c (.bool c)] s (.w (.c (.int .i64 (yesF c)))) s :=
  callR_fn (ps := [.c (.bool c)]) (pv := .w (.c (.int .i64 (yesF c)))) h25 (ofG_eq ⟨c, rfl, rfl⟩ (by
    rintro v' ⟨c', h1, rfl⟩
    simp only [List.cons.injEq, PW.c.injEq, D.bool.injEq, and_true] at h1
    rw [h1])) rfl
theorem add39 (X : T Ext) (hX : (En X).ext.get 39 = none) (a c : Int) (hc : inR c) (s : List UInt8) (i : Nat) (d : D) (f m : Bool) (b : Nat) (S : St) (K : V → St → Prop) (hr : LRow S b (cellsD (rkD s i d f m)))
    (hK : ∀ S' : St, LRow S' b (cellsD (rkD s i d f (m || ovAdd a c))) → K (.w (.c (.int .i64 (wr (a + c))))) S') : goC (En X) 39 [.c (.ptr b 0), .c (.int .i64 a), .c (.int .i64 c)] S K := by
  refine goC_body hX (kp39 X) (fn39 X) rfl (by kernel_rfl) ?_
  have hres : Tryd.f39.results.toList = [.tmp 6] := rfl
  obtain ⟨hi1, hi2⟩ := hc
  have c4 := rk4 hr
  cases m with
  | true =>
    rw [Bool.true_or] at hK
    obtain ⟨S3, w3, r3, n3, f3⟩ := rk_set4 hr true
    have hc1 : ([.bool true] : List C).length = 1 := rfl
    simp only [zEV, Nat.reduceShiftRight, Nat.reduceMod, Nat.reduceEqDiff, Nat.reduceAdd, ↓reduceIte, reduceCtorEq, rNil_eq, fA_43_4, ldh4, c4, st4, hc1, w3, hres]
    exact hK _ r3
  | false =>
    rw [Bool.false_or] at hK
    by_cases h1 : 0 < c
    · have hw : wrapK .i64 (9223372036854775807 - c) = 9223372036854775807 - c := w64 (by omega) (by omega)
      have h3 : ¬ c < 0 := by omega
      by_cases h2 : 9223372036854775807 - c < a
      · have hov : ovAdd a c = true := by unfold ovAdd mx minI; simp only [show decide (0 < c) = true from decide_eq_true h1, show decide (9223372036854775807 - c < a) = true from decide_eq_true h2, Bool.true_and, Bool.true_or]
        rw [hov] at hK
        obtain ⟨S3, w3, r3, n3, f3⟩ := rk_set4 hr true
        have hc1 : ([.bool true] : List C).length = 1 := rfl
        simp only [zEV, Nat.reduceShiftRight, Nat.reduceMod, Nat.reduceEqDiff, Nat.reduceAdd, ↓reduceIte, reduceCtorEq, rNil_eq, fA_43_4, ldh4, c4, st4, eq_true h1, hw, eq_true h2, hc1, w3, hres]
        exact hK _ r3
      · have hov : ovAdd a c = false := by unfold ovAdd mx minI; simp only [show decide (0 < c) = true from decide_eq_true h1, show decide (9223372036854775807 - c < a) = false from decide_eq_false h2, show decide (c < 0) = false from decide_eq_false h3, Bool.true_and, Bool.false_and, Bool.or_false]
        rw [hov] at hK
        obtain ⟨S3, w3, r3, n3, f3⟩ := rk_set4 hr false
        have hc1 : ([.bool false] : List C).length = 1 := rfl
        simp only [zEV, Nat.reduceShiftRight, Nat.reduceMod, Nat.reduceEqDiff, Nat.reduceAdd, ↓reduceIte, reduceCtorEq, rNil_eq, fA_43_4, ldh4, c4, st4, eq_true h1, hw, eq_false h2, eq_false h3, hc1, w3, hres]
        exact hK _ r3
    · by_cases h3 : c < 0
      · have hw : wrapK .i64 (-9223372036854775808 - c) = -9223372036854775808 - c := w64 (by omega) (by omega)
        by_cases h2 : a < -9223372036854775808 - c
        · have hov : ovAdd a c = true := by unfold ovAdd mx minI; simp only [show decide (0 < c) = false from decide_eq_false h1, show decide (c < 0) = true from decide_eq_true h3, show decide (a < -9223372036854775808 - c) = true from decide_eq_true h2, Bool.true_and, Bool.false_and, Bool.false_or]
          rw [hov] at hK
          obtain ⟨S3, w3, r3, n3, f3⟩ := rk_set4 hr true
          have hc1 : ([.bool true] : List C).length = 1 := rfl
          simp only [zEV, Nat.reduceShiftRight, Nat.reduceMod, Nat.reduceEqDiff, Nat.reduceAdd, ↓reduceIte, reduceCtorEq, rNil_eq, fA_43_4, ldh4, c4, st4, eq_false h1, hw, eq_true h2, eq_true h3, hc1, w3, hres]
          exact hK _ r3
        · have hov : ovAdd a c = false := by unfold ovAdd mx minI; simp only [show decide (0 < c) = false from decide_eq_false h1, show decide (c < 0) = true from decide_eq_true h3, show decide (a < -9223372036854775808 - c) = false from decide_eq_false h2, Bool.true_and, Bool.false_and, Bool.false_or]
          rw [hov] at hK
          obtain ⟨S3, w3, r3, n3, f3⟩ := rk_set4 hr false
          have hc1 : ([.bool false] : List C).length = 1 := rfl
          simp only [zEV, Nat.reduceShiftRight, Nat.reduceMod, Nat.reduceEqDiff, Nat.reduceAdd, ↓reduceIte, reduceCtorEq, rNil_eq, fA_43_4, ldh4, c4, st4, eq_false h1, hw, eq_false h2, eq_true h3, hc1, w3, hres]
          exact hK _ r3
      · have hov : ovAdd a c = false := by unfold ovAdd mx minI; simp only [show decide (0 < c) = false from decide_eq_false h1, show decide (c < 0) = false from decide_eq_false h3, Bool.false_and, Bool.false_or]
        rw [hov] at hK
        obtain ⟨S3, w3, r3, n3, f3⟩ := rk_set4 hr false
        have hc1 : ([.bool false] : List C).length = 1 := rfl
        simp only [zEV, Nat.reduceShiftRight, Nat.reduceMod, Nat.reduceEqDiff, Nat.reduceAdd, ↓reduceIte, reduceCtorEq, rNil_eq, fA_43_4, ldh4, c4, st4, eq_false h1, eq_false h3, hc1, w3, hres]
        exact hK _ r3
theorem sub40 (X : T Ext) (hX : (En X).ext.get 40 = none) (a c : Int) (hc : inR c) (s : List UInt8) (i : Nat) (d : D) (f m : Bool) (b : Nat) (S : St) (K : V → St → Prop) (hr : LRow S b (cellsD (rkD s i d f m)))
    (hK : ∀ S' : St, LRow S' b (cellsD (rkD s i d f (m || ovSub a c))) → K (.w (.c (.int .i64 (wr (a - c))))) S') : goC (En X) 40 [.c (.ptr b 0), .c (.int .i64 a), .c (.int .i64 c)] S K := by
  refine goC_body hX (kp40 X) (fn40 X) rfl (by kernel_rfl) ?_
  have hres : Tryd.f40.results.toList = [.tmp 6] := rfl
  obtain ⟨hi1, hi2⟩ := hc
  have c4 := rk4 hr
  cases m with
  | true =>
    rw [Bool.true_or] at hK
    obtain ⟨S3, w3, r3, n3, f3⟩ := rk_set4 hr true
    have hc1 : ([.bool true] : List C).length = 1 := rfl
    simp only [zEV, Nat.reduceShiftRight, Nat.reduceMod, Nat.reduceEqDiff, Nat.reduceAdd, ↓reduceIte, reduceCtorEq, rNil_eq, fA_43_4, ldh4, c4, st4, hc1, w3, hres]
    exact hK _ r3
  | false =>
    rw [Bool.false_or] at hK
    by_cases h1 : c < 0
    · have hw : wrapK .i64 (9223372036854775807 + c) = 9223372036854775807 + c := w64 (by omega) (by omega)
      have h3 : ¬ 0 < c := by omega
      by_cases h2 : 9223372036854775807 + c < a
      · have hov : ovSub a c = true := by unfold ovSub mx minI; simp only [show decide (c < 0) = true from decide_eq_true h1, show decide (9223372036854775807 + c < a) = true from decide_eq_true h2, Bool.true_and, Bool.true_or]
        rw [hov] at hK
        obtain ⟨S3, w3, r3, n3, f3⟩ := rk_set4 hr true
        have hc1 : ([.bool true] : List C).length = 1 := rfl
        simp only [zEV, Nat.reduceShiftRight, Nat.reduceMod, Nat.reduceEqDiff, Nat.reduceAdd, ↓reduceIte, reduceCtorEq, rNil_eq, fA_43_4, ldh4, c4, st4, eq_true h1, hw, eq_true h2, hc1, w3, hres]
        exact hK _ r3
      · have hov : ovSub a c = false := by unfold ovSub mx minI; simp only [show decide (c < 0) = true from decide_eq_true h1, show decide (9223372036854775807 + c < a) = false from decide_eq_false h2, show decide (0 < c) = false from decide_eq_false h3, Bool.true_and, Bool.false_and, Bool.or_false]
        rw [hov] at hK
        obtain ⟨S3, w3, r3, n3, f3⟩ := rk_set4 hr false
        have hc1 : ([.bool false] : List C).length = 1 := rfl
        simp only [zEV, Nat.reduceShiftRight, Nat.reduceMod, Nat.reduceEqDiff, Nat.reduceAdd, ↓reduceIte, reduceCtorEq, rNil_eq, fA_43_4, ldh4, c4, st4, eq_true h1, hw, eq_false h2, eq_false h3, hc1, w3, hres]
        exact hK _ r3
    · by_cases h3 : 0 < c
      · have hw : wrapK .i64 (-9223372036854775808 + c) = -9223372036854775808 + c := w64 (by omega) (by omega)
        by_cases h2 : a < -9223372036854775808 + c
        · have hov : ovSub a c = true := by unfold ovSub mx minI; simp only [show decide (c < 0) = false from decide_eq_false h1, show decide (0 < c) = true from decide_eq_true h3, show decide (a < -9223372036854775808 + c) = true from decide_eq_true h2, Bool.true_and, Bool.false_and, Bool.false_or]
          rw [hov] at hK
          obtain ⟨S3, w3, r3, n3, f3⟩ := rk_set4 hr true
          have hc1 : ([.bool true] : List C).length = 1 := rfl
          simp only [zEV, Nat.reduceShiftRight, Nat.reduceMod, Nat.reduceEqDiff, Nat.reduceAdd, ↓reduceIte, reduceCtorEq, rNil_eq, fA_43_4, ldh4, c4, st4, eq_false h1, hw, eq_true h2, eq_true h3, hc1, w3, hres]
          exact hK _ r3
        · have hov : ovSub a c = false := by unfold ovSub mx minI; simp only [show decide (c < 0) = false from decide_eq_false h1, show decide (0 < c) = true from decide_eq_true h3, show decide (a < -9223372036854775808 + c) = false from decide_eq_false h2, Bool.true_and, Bool.false_and, Bool.false_or]
          rw [hov] at hK
          obtain ⟨S3, w3, r3, n3, f3⟩ := rk_set4 hr false
          have hc1 : ([.bool false] : List C).length = 1 := rfl
          simp only [zEV, Nat.reduceShiftRight, Nat.reduceMod, Nat.reduceEqDiff, Nat.reduceAdd, ↓reduceIte, reduceCtorEq, rNil_eq, fA_43_4, ldh4, c4, st4, eq_false h1, hw, eq_false h2, eq_true h3, hc1, w3, hres]
          exact hK _ r3
      · have hov : ovSub a c = false := by unfold ovSub mx minI; simp only [show decide (c < 0) = false from decide_eq_false h1, show decide (0 < c) = false from decide_eq_false h3, Bool.false_and, Bool.false_or]
        rw [hov] at hK
        obtain ⟨S3, w3, r3, n3, f3⟩ := rk_set4 hr false
        have hc1 : ([.bool false] : List C).length = 1 := rfl
        simp only [zEV, Nat.reduceShiftRight, Nat.reduceMod, Nat.reduceEqDiff, Nat.reduceAdd, ↓reduceIte, reduceCtorEq, rNil_eq, fA_43_4, ldh4, c4, st4, eq_false h1, eq_false h3, hc1, w3, hres]
        exact hK _ r3
end Ar

namespace Ar
open Go Go.Proofs Ev Go.Lib Nu
set_option linter.unusedVariables false
set_option linter.unusedSimpArgs false
set_option linter.unnecessarySimpa false
set_option maxRecDepth 100000
def ROp (F : Int → Int → Int × Bool) (ds : List D) (ps : List PW) (v : PV × List D) : Prop := ∃ s i d f m a c, ds = rkD s i d f m ∧ d.plain = true ∧ inR a ∧ inR c ∧ ps = [.c (.int .i64 a), .c (.int .i64 c)] ∧ v = (.w (.c (.int .i64 (F a c).1)), rkD s i d f (m || (F a c).2))
theorem callR_op {X : T Ext} {F : Int → Int → Int × Bool} {g : Nat} (h : (En X).ext.get g = some (.me (ofM (ROp F)) [])) {s : List UInt8} {i : Nat} {d : D} (hd : d.plain = true) {f m : Bool} {a c : Int} (ha : inR a) (hc : inR c) {b : Nat} {S : St} (hr : LRow S b (cellsD (rkD s i d f m))) :
    ∃ S2, CallR (En X) g [.c (.ptr b 0), .c (.int .i64 a), .c (.int .i64 c)] S (.w (.c (.int .i64 (F a c).1))) S2 ∧ LRow S2 b (cellsD (rkD s i d f (m || (F a c).2))) ∧ S2.nx = S.nx ∧ ∀ x, x ≠ b → S2.h.get x = S.h.get x :=
  callR_me (ps := [.c (.int .i64 a), .c (.int .i64 c)]) (pv := .w (.c (.int .i64 (F a c).1))) h hr (rk_plain hd) rfl ⟨s, i, d, f, m, a, c, rfl, hd, ha, hc, rfl, rfl⟩ (by
    rintro v ⟨s', i', d', f', m', a', c', h1, _, _, _, h2, rfl⟩
    obtain ⟨rfl, rfl, rfl, rfl, rfl⟩ := rkD_inj h1
    simp only [List.cons.injEq, PW.c.injEq, D.int.injEq, true_and, and_true] at h2
    rw [h2.1, h2.2]) rfl
def addR (a c : Int) : Int × Bool := (wr (a + c), ovAdd a c)
def subR (a c : Int) : Int × Bool := (wr (a - c), ovSub a c)
def mulR (a c : Int) : Int × Bool := (wr (a * c), ovMul a c)
noncomputable def e39 : Nat × Ext := (39, .me (ofM (ROp addR)) [])
theorem c39 : Ok e39 := me_goE (exts := []) Ak.any_ok types_ok fns_ok ok0 (ROp addR) (fun _ _ _ _ x hx => by cases hx) (by
  rintro ds ps pv ds' ⟨s, i, d, f, m, a, c, rfl, hd, ha, hc, rfl, h⟩
  cases h
  exact add39 _ rfl a c hc s i d f m _ _ _ (stM_LRow _ _) fun s' hr => meR0 (bs := []) hd rfl (fun h => by cases h) hr)
noncomputable def e40r : Nat × Ext := (40, .me (ofM (ROp subR)) [])
theorem c40r : Ok e40r := me_goE (exts := []) Ak.any_ok types_ok fns_ok ok0 (ROp subR) (fun _ _ _ _ x hx => by cases hx) (by
  rintro ds ps pv ds' ⟨s, i, d, f, m, a, c, rfl, hd, ha, hc, rfl, h⟩
  cases h
  exact sub40 _ rfl a c hc s i d f m _ _ _ (stM_LRow _ _) fun s' hr => meR0 (bs := []) hd rfl (fun h => by cases h) hr)
theorem mul50 (X : T Ext) (hX : (En X).ext.get 50 = none) (a c : Int) (s : List UInt8) (i : Nat) (d : D) (f m : Bool) (b : Nat) (S : St) (K : V → St → Prop) (hr : LRow S b (cellsD (rkD s i d f m)))
    (hK : ∀ S' : St, LRow S' b (cellsD (rkD s i d f (m || ovMul a c))) → K (.w (.c (.int .i64 (wr (a * c))))) S') : goC (En X) 50 [.c (.ptr b 0), .c (.int .i64 a), .c (.int .i64 c)] S K := by
  refine goC_body hX (kp50 X) (fn50 X) rfl (by kernel_rfl) ?_
  have hres : Tryd.f50.results.toList = [.tmp 6] := rfl
  have c4 := rk4 hr
  by_cases h1 : a = 0
  · have hov : ovMul a c = false := by unfold ovMul; rw [decide_eq_true h1]; rfl
    rw [hov, Bool.or_false] at hK
    simp only [zEV, Nat.reduceShiftRight, Nat.reduceMod, Nat.reduceEqDiff, Nat.reduceAdd, ↓reduceIte, reduceCtorEq, eq_true h1, hres]
    exact hK _ hr
  by_cases h2 : c = 0
  · have hov : ovMul a c = false := by unfold ovMul; rw [decide_eq_true h2]; simp
    rw [hov, Bool.or_false] at hK
    simp only [zEV, Nat.reduceShiftRight, Nat.reduceMod, Nat.reduceEqDiff, Nat.reduceAdd, ↓reduceIte, reduceCtorEq, eq_false h1, eq_true h2, hres]
    exact hK _ hr
  have q1 := fun ox oy => b_quoI (En X) 2 ox oy (wr (a * c)) c h2
  have hwr : wrapK .i64 (a * c) = wr (a * c) := rfl
  cases m with
  | true =>
    rw [Bool.true_or] at hK
    obtain ⟨S3, w3, r3, n3, f3⟩ := rk_set4 hr true
    have hc1 : ([.bool true] : List C).length = 1 := rfl
    simp only [zEV, Nat.reduceShiftRight, Nat.reduceMod, Nat.reduceEqDiff, Nat.reduceAdd, ↓reduceIte, reduceCtorEq, eq_false h1, eq_false h2, hwr, rNil_eq, fA_43_4, ldh4, c4, st4, hc1, w3, hres]
    exact hK _ r3
  | false =>
    rw [Bool.false_or] at hK
    by_cases h3 : wr ((wr (a * c)).tdiv c) = a
    · have h3' : (wrapK .i64 ((wr (a * c)).tdiv c) = a) = True := eq_true h3
      have fin : ∀ lit : Bool, ovMul a c = lit → (∀ S' : St, LRow S' b (cellsD (rkD s i d f lit)) → K (.w (.c (.int .i64 (wr (a * c))))) S') := fun lit hl => by rw [← hl]; exact hK
      have hov : ovMul a c = ((decide (a = -1) && decide (c = minI)) || (decide (c = -1) && decide (a = minI))) := by
        unfold ovMul
        rw [decide_eq_false h1, decide_eq_false h2, decide_eq_true h3]
        simp only [Bool.not_false, Bool.not_true, Bool.true_and, Bool.false_or]
      have hmn : minI = -9223372036854775808 := rfl
      rw [hmn] at hov
      by_cases h4 : a = -1
      · by_cases h5 : c = -9223372036854775808
        · have hK := fin true (by rw [hov, decide_eq_true h4, decide_eq_true h5]; rfl)
          obtain ⟨S3, w3, r3, n3, f3⟩ := rk_set4 hr true
          have hc1 : ([.bool true] : List C).length = 1 := rfl
          simp only [zEV, Nat.reduceShiftRight, Nat.reduceMod, Nat.reduceEqDiff, Nat.reduceAdd, ↓reduceIte, reduceCtorEq, eq_false h1, eq_false h2, hwr, q1, h3', eq_true h4, eq_true h5, rNil_eq, fA_43_4, ldh4, c4, st4, hc1, w3, hres]
          exact hK _ r3
        · by_cases h6 : c = -1
          · have h7 : ¬ a = -9223372036854775808 := by omega
            have hK := fin false (by rw [hov, decide_eq_true h4, decide_eq_false h5, decide_eq_true h6, decide_eq_false h7]; rfl)
            obtain ⟨S3, w3, r3, n3, f3⟩ := rk_set4 hr false
            have hc1 : ([.bool false] : List C).length = 1 := rfl
            simp only [zEV, Nat.reduceShiftRight, Nat.reduceMod, Nat.reduceEqDiff, Nat.reduceAdd, ↓reduceIte, reduceCtorEq, eq_false h1, eq_false h2, hwr, q1, h3', eq_true h4, eq_false h5, eq_true h6, eq_false h7, rNil_eq, fA_43_4, ldh4, c4, st4, hc1, w3, hres]
            exact hK _ r3
          · have hK := fin false (by rw [hov, decide_eq_true h4, decide_eq_false h5, decide_eq_false h6]; rfl)
            obtain ⟨S3, w3, r3, n3, f3⟩ := rk_set4 hr false
            have hc1 : ([.bool false] : List C).length = 1 := rfl
            simp only [zEV, Nat.reduceShiftRight, Nat.reduceMod, Nat.reduceEqDiff, Nat.reduceAdd, ↓reduceIte, reduceCtorEq, eq_false h1, eq_false h2, hwr, q1, h3', eq_true h4, eq_false h5, eq_false h6, rNil_eq, fA_43_4, ldh4, c4, st4, hc1, w3, hres]
            exact hK _ r3
      · by_cases h6 : c = -1
        · by_cases h7 : a = -9223372036854775808
          · have hK := fin true (by rw [hov, decide_eq_false h4, decide_eq_true h6, decide_eq_true h7]; rfl)
            obtain ⟨S3, w3, r3, n3, f3⟩ := rk_set4 hr true
            have hc1 : ([.bool true] : List C).length = 1 := rfl
            simp only [zEV, Nat.reduceShiftRight, Nat.reduceMod, Nat.reduceEqDiff, Nat.reduceAdd, ↓reduceIte, reduceCtorEq, eq_false h1, eq_false h2, hwr, q1, h3', eq_false h4, eq_true h6, eq_true h7, rNil_eq, fA_43_4, ldh4, c4, st4, hc1, w3, hres]
            exact hK _ r3
          · have hK := fin false (by rw [hov, decide_eq_false h4, decide_eq_true h6, decide_eq_false h7]; rfl)
            obtain ⟨S3, w3, r3, n3, f3⟩ := rk_set4 hr false
            have hc1 : ([.bool false] : List C).length = 1 := rfl
            simp only [zEV, Nat.reduceShiftRight, Nat.reduceMod, Nat.reduceEqDiff, Nat.reduceAdd, ↓reduceIte, reduceCtorEq, eq_false h1, eq_false h2, hwr, q1, h3', eq_false h4, eq_true h6, eq_false h7, rNil_eq, fA_43_4, ldh4, c4, st4, hc1, w3, hres]
            exact hK _ r3
        · have hK := fin false (by rw [hov, decide_eq_false h4, decide_eq_false h6]; rfl)
          obtain ⟨S3, w3, r3, n3, f3⟩ := rk_set4 hr false
          have hc1 : ([.bool false] : List C).length = 1 := rfl
          simp only [zEV, Nat.reduceShiftRight, Nat.reduceMod, Nat.reduceEqDiff, Nat.reduceAdd, ↓reduceIte, reduceCtorEq, eq_false h1, eq_false h2, hwr, q1, h3', eq_false h4, eq_false h6, rNil_eq, fA_43_4, ldh4, c4, st4, hc1, w3, hres]
          exact hK _ r3
    · have h3' : (wrapK .i64 ((wr (a * c)).tdiv c) = a) = False := eq_false h3
      have hov : ovMul a c = true := by
        unfold ovMul
        rw [decide_eq_false h1, decide_eq_false h2, decide_eq_false h3]
        simp only [Bool.not_false, Bool.true_and, Bool.true_or]
      rw [hov] at hK
      obtain ⟨S3, w3, r3, n3, f3⟩ := rk_set4 hr true
      have hc1 : ([.bool true] : List C).length = 1 := rfl
      simp only [zEV, Nat.reduceShiftRight, Nat.reduceMod, Nat.reduceEqDiff, Nat.reduceAdd, ↓reduceIte, reduceCtorEq, eq_false h1, eq_false h2, hwr, q1, h3', rNil_eq, fA_43_4, ldh4, c4, st4, hc1, w3, hres]
      exact hK _ r3
noncomputable def e50 : Nat × Ext := (50, .me (ofM (ROp mulR)) [])
theorem c50 : Ok e50 := me_goE (exts := []) Ak.any_ok types_ok fns_ok ok0 (ROp mulR) (fun _ _ _ _ x hx => by cases hx) (by
  rintro ds ps pv ds' ⟨s, i, d, f, m, a, c, rfl, hd, ha, hc, rfl, h⟩
  cases h
  exact mul50 _ rfl a c s i d f m _ _ _ (stM_LRow _ _) fun s' hr => meR0 (bs := []) hd rfl (fun h => by cases h) hr)
theorem div51 (X : T Ext) (hX : (En X).ext.get 51 = none) (h40 : (En X).ext.get 40 = some (.me (ofM (ROp subR)) [])) (a c : Int) (ha : inR a) (lf : Bool) (s : List UInt8) (i : Nat) (d : D) (hd : d.plain = true) (f m : Bool) (b : Nat) (S : St) (K : V → St → Prop) (hr : LRow S b (cellsD (rkD s i d f m)))
    (hK : ∀ S' : St, LRow S' b (cellsD (rkD s i d f (m || (divR a c lf).2))) → K (.w (.c (.int .i64 (divR a c lf).1))) S') : goC (En X) 51 [.c (.ptr b 0), .c (.int .i64 a), .c (.int .i64 c), .c (.bool lf)] S K := by
  refine goC_body hX (kp51 X) (fn51 X) rfl (by kernel_rfl) ?_
  have hres : Tryd.f51.results.toList = [.tmp 8] := rfl
  have c4 := rk4 hr
  unfold divR at hK
  by_cases h1 : c = 0
  · rw [if_pos h1, Bool.or_true] at hK
    obtain ⟨S3, w3, r3, n3, f3⟩ := rk_set4 hr true
    have hc1 : ([.bool true] : List C).length = 1 := rfl
    simp only [zEV, Nat.reduceShiftRight, Nat.reduceMod, Nat.reduceEqDiff, Nat.reduceAdd, ↓reduceIte, reduceCtorEq, eq_true h1, rNil_eq, fA_43_4, ldh4, c4, st4, hc1, w3, hres]
    exact hK _ r3
  rw [if_neg h1] at hK
  by_cases h2 : c = -1
  · rw [if_pos h2] at hK
    cases lf with
    | true =>
      rw [if_pos rfl, Bool.or_false] at hK
      simp only [zEV, Nat.reduceShiftRight, Nat.reduceMod, Nat.reduceEqDiff, Nat.reduceAdd, ↓reduceIte, reduceCtorEq, eq_false h1, eq_true h2, hres]
      exact hK _ hr
    | false =>
      rw [if_neg (by simp)] at hK
      simp only [zEV, Nat.reduceShiftRight, Nat.reduceMod, Nat.reduceEqDiff, Nat.reduceAdd, ↓reduceIte, reduceCtorEq, eq_false h1, eq_true h2]
      obtain ⟨S3, hc3, r3, n3, f3⟩ := callR_op h40 hd (a := 0) (c := a) in0 ha hr
      refine go_call _ _ _ _ _ _ (ws := [.c (.ptr b 0), .c (.int .i64 0), .c (.int .i64 a)]) rfl (by simp only [zEA, Nat.reduceShiftRight, Nat.reduceMod, Nat.reduceEqDiff, Nat.reduceAdd, ↓reduceIte, reduceCtorEq, argsOf_cons, argsOf_nil]) ?_
      refine goC_of hc3 ?_
      simp only [zEV, Nat.reduceShiftRight, Nat.reduceMod, Nat.reduceEqDiff, Nat.reduceAdd, ↓reduceIte, reduceCtorEq, hres]
      exact hK _ r3
  rw [if_neg h2] at hK
  cases lf with
  | true =>
    rw [if_pos rfl, Bool.or_false] at hK
    have q1 := fun ox oy => b_remI (En X) 2 ox oy a c h1
    simp only [zEV, Nat.reduceShiftRight, Nat.reduceMod, Nat.reduceEqDiff, Nat.reduceAdd, ↓reduceIte, reduceCtorEq, eq_false h1, eq_false h2, q1, hres]
    exact hK _ hr
  | false =>
    rw [if_neg (by simp), Bool.or_false] at hK
    have q1 := fun ox oy => b_quoI (En X) 2 ox oy a c h1
    simp only [zEV, Nat.reduceShiftRight, Nat.reduceMod, Nat.reduceEqDiff, Nat.reduceAdd, ↓reduceIte, reduceCtorEq, eq_false h1, eq_false h2, q1, hres]
    exact hK _ hr
def RDv (ds : List D) (ps : List PW) (v : PV × List D) : Prop := ∃ s i d f m a c lf, ds = rkD s i d f m ∧ d.plain = true ∧ inR a ∧ inR c ∧ ps = [.c (.int .i64 a), .c (.int .i64 c), .c (.bool lf)] ∧ v = (.w (.c (.int .i64 (divR a c lf).1)), rkD s i d f (m || (divR a c lf).2))
noncomputable def e51r : Nat × Ext := (51, .me (ofM RDv) [])
theorem c51r : Ok e51r := me_goE (exts := [e40r]) Ak.any_ok types_ok fns_ok (ok1 c40r ok0) RDv (fun _ _ _ _ x hx => by cases hx) (by
  rintro ds ps pv ds' ⟨s, i, d, f, m, a, c, lf, rfl, hd, ha, hc, rfl, h⟩
  cases h
  exact div51 _ rfl rfl a c ha lf s i d hd f m _ _ _ (stM_LRow _ _) fun s' hr => meR0 (bs := []) hd rfl (fun h => by cases h) hr)
theorem callR_dv {X : T Ext} (h : (En X).ext.get 51 = some (.me (ofM RDv) [])) (lf : Bool) {s : List UInt8} {i : Nat} {d : D} (hd : d.plain = true) {f m : Bool} {a c : Int} (ha : inR a) (hc : inR c) {b : Nat} {S : St} (hr : LRow S b (cellsD (rkD s i d f m))) :
    ∃ S2, CallR (En X) 51 [.c (.ptr b 0), .c (.int .i64 a), .c (.int .i64 c), .c (.bool lf)] S (.w (.c (.int .i64 (divR a c lf).1))) S2 ∧ LRow S2 b (cellsD (rkD s i d f (m || (divR a c lf).2))) ∧ S2.nx = S.nx ∧ ∀ x, x ≠ b → S2.h.get x = S.h.get x :=
  callR_me (ps := [.c (.int .i64 a), .c (.int .i64 c), .c (.bool lf)]) (pv := .w (.c (.int .i64 (divR a c lf).1))) h hr (rk_plain hd) rfl ⟨s, i, d, f, m, a, c, lf, rfl, hd, ha, hc, rfl, rfl⟩ (by
    rintro v ⟨s', i', d', f', m', a', c', lf', h1, _, _, _, h2, rfl⟩
    obtain ⟨rfl, rfl, rfl, rfl, rfl⟩ := rkD_inj h1
    simp only [List.cons.injEq, PW.c.injEq, D.int.injEq, D.bool.injEq, true_and, and_true] at h2
    rw [h2.1, h2.2.1, h2.2.2]) rfl
end Ar
