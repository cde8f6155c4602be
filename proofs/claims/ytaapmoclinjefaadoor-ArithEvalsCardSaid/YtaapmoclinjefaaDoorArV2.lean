import Derived.Test.YtaapmoclinjefaaDoorArV1
import Derived.Test.YtaapmoclinjefaaDoorEwL
namespace Ar
open Go Go.Proofs Ev Go.Lib Nu
set_option linter.unusedVariables false
set_option linter.unusedSimpArgs false
set_option linter.unnecessarySimpa false
set_option maxRecDepth 100000
theorem cv52 (X : T Ext) (n : Nat) (look : Look) (h : n < 256) : Ev.convert (En X) 5 2 (.int .u8 (Int.ofNat n)) look = some (.int .i64 (Int.ofNat n)) := by
  unfold Ev.convert
  rw [uint5]
  simp only []
  rw [uint2]
  show intC .i64 (wrapK .i64 (Int.ofNat n)) = _
  rw [intC_eq]
  congr 2
  exact wrap_nat (by omega)
theorem b_quo (E : Env) (t : Nat) (ox oy : Operand) (m n : Int) (hn : n ≠ 0) : Ev.binOp E .quo t ox oy (.c (.int .i64 m)) (.c (.int .i64 n)) = some (vc (.int .i64 (wrapK .i64 (m.tdiv n)))) := by
  have hk : kEq .i64 .i64 = true := rfl
  have h0 : iEq n 0 = false := by rw [iEq_eq]; simpa using hn
  simp only [Ev.binOp, isShift, hk, intOp, h0, intC_eq, retC_some]
theorem w8 {c : UInt8} (h : 48 ≤ c.toNat) : wrapK .u8 (Int.ofNat c.toNat - 48) = Int.ofNat (c.toNat - 48) := by
  have h2 := c.toNat_lt
  rw [show Int.ofNat c.toNat - 48 = Int.ofNat (c.toNat - 48) by show ((c.toNat : Nat) : Int) - 48 = ((c.toNat - 48 : Nat) : Int); omega, wrapK_eq]
  refine wrap_in _ _ ?_ ?_
  · show (0 : Int) ≤ ((c.toNat - 48 : Nat) : Int); omega
  · show ((c.toNat - 48 : Nat) : Int) ≤ 255; omega
theorem digits12 (X : T Ext) (hX : (En X).ext.get 84 = none) (l : List UInt8) (hd : l.all dig = true) (hl : l.length ≤ 140737488351232) (s : St) (K : V → St → Prop) (hK : ∀ s', K (resN ((refB 9223372036854775807 0 l).map (fun u : Nat => (u : Int)))) s') :
    goC (En X) 84 [.c (.str (Str.ofL l))] s K := by
  refine goC_body hX (kp84 X) (fn84 X) rfl (by kernel_rfl) ?_
  simp only [zEV, Nat.reduceShiftRight, Nat.reduceMod, Nat.reduceEqDiff, Nat.reduceAdd, ↓reduceIte, reduceCtorEq, len_str]
  have hres : Tryd.f84.results.toList = [.tmp 2, .tmp 3] := rfl
  refine go_loop (goL_inv (fun n a' s' => ∃ i m, n = l.length - i ∧ i ≤ l.length ∧ m ≤ 9223372036854775807 ∧ Has a' 0 (vc (.str (Str.ofL l))) ∧ Has a' 4 (vc (.int .i64 (Int.ofNat m))) ∧ Has a' 5 (vc (.int .i64 (Int.ofNat i))) ∧ refB 9223372036854775807 m (l.drop i) = refB 9223372036854775807 0 l) (n := l.length)
    ⟨0, 0, rfl, Nat.zero_le _, by omega, ⟨rfl, rfl⟩, ⟨rfl, rfl⟩, ⟨rfl, rfl⟩, rfl⟩ ?_)
  rintro n a' s' ⟨i, m, rfl, hi, hm, ⟨g0, k0⟩, ⟨g4, k4⟩, ⟨g5, k5⟩, hre⟩
  by_cases hlt : i < l.length
  · obtain ⟨c, hc⟩ : ∃ c, l[i]? = some c := ⟨_, List.getElem?_eq_getElem hlt⟩
    have hdc := (dig_iff c).1 (List.all_eq_true.1 hd c (List.mem_of_getElem? hc))
    have hix := index_str X l hc
    have hdr : l.drop i = c :: l.drop (i + 1) := by
      rw [List.drop_eq_getElem_cons hlt]
      congr 1
      have := List.getElem?_eq_getElem hlt
      rw [hc] at this; exact (Option.some.inj this).symm
    have hlt' : (Int.ofNat i < Int.ofNat l.length) = True := by simpa using Int.ofNat_lt.2 hlt
    have hsu := nat_succ (show i < 9223372036854775807 by omega)
    have hw8 := w8 hdc.1
    have hcv : ∀ look, Ev.convert (En X) 5 2 (.int .u8 (Int.ofNat (c.toNat - 48))) look = some (.int .i64 (Int.ofNat (c.toNat - 48))) := fun look => cv52 X _ look (by omega)
    generalize hdd : c.toNat - 48 = d at *
    have hsub : wrapK .i64 (9223372036854775807 - Int.ofNat d) = Int.ofNat (9223372036854775807 - d) := by
      rw [show (9223372036854775807 : Int) - Int.ofNat d = Int.ofNat (9223372036854775807 - d) by show (9223372036854775807 : Int) - ((d : Nat) : Int) = ((9223372036854775807 - d : Nat) : Int); omega]
      exact wrap_nat (by omega)
    have hquo : wrapK .i64 ((Int.ofNat (9223372036854775807 - d)).tdiv 10) = Int.ofNat ((9223372036854775807 - d) / 10) := by
      rw [show (Int.ofNat (9223372036854775807 - d)).tdiv 10 = Int.ofNat ((9223372036854775807 - d) / 10) from rfl]
      exact wrap_nat (by omega)
    have hbq := fun ox oy => b_quo (En X) 2 ox oy (Int.ofNat (9223372036854775807 - d)) 10 (by decide)
    by_cases hov : 9223372036854775807 < m * 10 + d
    · have hcond : (Int.ofNat ((9223372036854775807 - d) / 10) < Int.ofNat m) = True := eq_true (by show ((_ : Nat) : Int) < ((m : Nat) : Int); omega)
      simp only [zEV, Nat.reduceShiftRight, Nat.reduceMod, Nat.reduceEqDiff, Nat.reduceAdd, ↓reduceIte, reduceCtorEq, g0, k0, g4, k4, g5, k5, len_str, hlt', rIndex_eq, hix, rConvert_eq, go_convert, isNew2, hw8, hcv, hsub, hbq, hquo, hcond, hres]
      have hn : refB 9223372036854775807 0 l = none := by
        rw [← hre, hdr]
        unfold refB
        rw [hdd, if_pos hov]
      rw [hn] at hK
      exact hK _
    · have hcond : (Int.ofNat ((9223372036854775807 - d) / 10) < Int.ofNat m) = False := eq_false (by show ¬ ((_ : Nat) : Int) < ((m : Nat) : Int); omega)
      have hm1 : wrapK .i64 (10 * Int.ofNat m) = Int.ofNat (10 * m) := by
        rw [show (10 : Int) * Int.ofNat m = Int.ofNat (10 * m) from rfl]
        exact wrap_nat (by omega)
      have hm2 : wrapK .i64 (Int.ofNat (10 * m) + Int.ofNat d) = Int.ofNat (m * 10 + d) := by
        rw [show Int.ofNat (10 * m) + Int.ofNat d = Int.ofNat (m * 10 + d) by show ((10 * m : Nat) : Int) + ((d : Nat) : Int) = ((m * 10 + d : Nat) : Int); omega]
        exact wrap_nat (by omega)
      simp only [zEV, Nat.reduceShiftRight, Nat.reduceMod, Nat.reduceEqDiff, Nat.reduceAdd, ↓reduceIte, reduceCtorEq, g0, k0, g4, k4, g5, k5, len_str, hlt', rIndex_eq, hix, rConvert_eq, go_convert, isNew2, hw8, hcv, hsub, hbq, hquo, hcond, hm1, hm2, hsu]
      refine ⟨_, ?_, i + 1, m * 10 + d, rfl, hlt, by omega, ⟨?_, ?_⟩, ⟨?_, ?_⟩, ⟨?_, ?_⟩, ?_⟩
      case refine_8 =>
        rw [← hre, hdr]
        conv => rhs; unfold refB
        rw [hdd, if_neg hov]
      all_goals first | (simp only [zEA, Nat.reduceShiftRight, Nat.reduceMod, Nat.reduceEqDiff, Nat.reduceAdd, ↓reduceIte, reduceCtorEq, g0, k0, g4, k4]; done) | omega
  · have hlt' : (Int.ofNat i < Int.ofNat l.length) = False := by simpa using fun h => hlt (Int.ofNat_lt.1 h)
    simp only [zEV, Nat.reduceShiftRight, Nat.reduceMod, Nat.reduceEqDiff, Nat.reduceAdd, ↓reduceIte, reduceCtorEq, g0, k0, g4, k4, g5, k5, len_str, hlt', hres]
    have hn : refB 9223372036854775807 0 l = some m := by
      rw [← hre, List.drop_of_length_le (by omega)]; rfl
    rw [hn] at hK
    exact hK _
theorem turned11 (X : T Ext) (hX : (En X).ext.get 83 = none) (l : List UInt8) (hd : l.all dig = true) (hl : l.length ≤ 140737488351232) (s : St) (K : V → St → Prop) (hK : ∀ s', K (resN ((refB 9223372036854775808 0 l).map (fun u : Nat => -(u : Int)))) s') :
    goC (En X) 83 [.c (.str (Str.ofL l))] s K := by
  refine goC_body hX (kp83 X) (fn83 X) rfl (by kernel_rfl) ?_
  simp only [zEV, Nat.reduceShiftRight, Nat.reduceMod, Nat.reduceEqDiff, Nat.reduceAdd, ↓reduceIte, reduceCtorEq, len_str]
  have hres : Tryd.f83.results.toList = [.tmp 2, .tmp 3] := rfl
  refine go_loop (goL_inv (fun n a' s' => ∃ i m, n = l.length - i ∧ i ≤ l.length ∧ m ≤ 9223372036854775808 ∧ Has a' 0 (vc (.str (Str.ofL l))) ∧ Has a' 4 (vc (.int .i64 (-((m : Nat) : Int)))) ∧ Has a' 5 (vc (.int .i64 (Int.ofNat i))) ∧ refB 9223372036854775808 m (l.drop i) = refB 9223372036854775808 0 l) (n := l.length)
    ⟨0, 0, rfl, Nat.zero_le _, by omega, ⟨rfl, rfl⟩, ⟨rfl, rfl⟩, ⟨rfl, rfl⟩, rfl⟩ ?_)
  rintro n a' s' ⟨i, m, rfl, hi, hm, ⟨g0, k0⟩, ⟨g4, k4⟩, ⟨g5, k5⟩, hre⟩
  by_cases hlt : i < l.length
  · obtain ⟨c, hc⟩ : ∃ c, l[i]? = some c := ⟨_, List.getElem?_eq_getElem hlt⟩
    have hdc := (dig_iff c).1 (List.all_eq_true.1 hd c (List.mem_of_getElem? hc))
    have hix := index_str X l hc
    have hdr : l.drop i = c :: l.drop (i + 1) := by
      rw [List.drop_eq_getElem_cons hlt]
      congr 1
      have := List.getElem?_eq_getElem hlt
      rw [hc] at this; exact (Option.some.inj this).symm
    have hlt' : (Int.ofNat i < Int.ofNat l.length) = True := by simpa using Int.ofNat_lt.2 hlt
    have hsu := nat_succ (show i < 9223372036854775807 by omega)
    have hw8 := w8 hdc.1
    have hcv : ∀ look, Ev.convert (En X) 5 2 (.int .u8 (Int.ofNat (c.toNat - 48))) look = some (.int .i64 (Int.ofNat (c.toNat - 48))) := fun look => cv52 X _ look (by omega)
    generalize hdd : c.toNat - 48 = d at *
    have hsub : wrapK .i64 (-9223372036854775808 + Int.ofNat d) = -((9223372036854775808 - d : Nat) : Int) := by
      rw [show (-9223372036854775808 : Int) + Int.ofNat d = -((9223372036854775808 - d : Nat) : Int) by show (-9223372036854775808 : Int) + ((d : Nat) : Int) = _; omega]
      exact w64 (by omega) (by omega)
    have hquo : wrapK .i64 ((-((9223372036854775808 - d : Nat) : Int)).tdiv 10) = -(((9223372036854775808 - d) / 10 : Nat) : Int) := by
      rw [show (-((9223372036854775808 - d : Nat) : Int)).tdiv 10 = -(((9223372036854775808 - d) / 10 : Nat) : Int) by rw [Int.neg_tdiv]; rfl]
      exact w64 (by omega) (by omega)
    have hbq := fun ox oy => b_quo (En X) 2 ox oy (-((9223372036854775808 - d : Nat) : Int)) 10 (by decide)
    by_cases hov : 9223372036854775808 < m * 10 + d
    · have hcond : (-((m : Nat) : Int) < -(((9223372036854775808 - d) / 10 : Nat) : Int)) = True := eq_true (by omega)
      simp only [zEV, Nat.reduceShiftRight, Nat.reduceMod, Nat.reduceEqDiff, Nat.reduceAdd, ↓reduceIte, reduceCtorEq, g0, k0, g4, k4, g5, k5, len_str, hlt', rIndex_eq, hix, rConvert_eq, go_convert, isNew2, hw8, hcv, hsub, hbq, hquo, hcond, hres]
      have hn : refB 9223372036854775808 0 l = none := by
        rw [← hre, hdr]
        unfold refB
        rw [hdd, if_pos hov]
      rw [hn] at hK
      exact hK _
    · have hcond : (-((m : Nat) : Int) < -(((9223372036854775808 - d) / 10 : Nat) : Int)) = False := eq_false (by omega)
      have hm1 : wrapK .i64 (10 * -((m : Nat) : Int)) = -((10 * m : Nat) : Int) := by
        rw [show (10 : Int) * -((m : Nat) : Int) = -((10 * m : Nat) : Int) by omega]
        exact w64 (by omega) (by omega)
      have hm2 : wrapK .i64 (-((10 * m : Nat) : Int) - Int.ofNat d) = -((m * 10 + d : Nat) : Int) := by
        rw [show -((10 * m : Nat) : Int) - Int.ofNat d = -((m * 10 + d : Nat) : Int) by show -((10 * m : Nat) : Int) - ((d : Nat) : Int) = _; omega]
        exact w64 (by omega) (by omega)
      simp only [zEV, Nat.reduceShiftRight, Nat.reduceMod, Nat.reduceEqDiff, Nat.reduceAdd, ↓reduceIte, reduceCtorEq, g0, k0, g4, k4, g5, k5, len_str, hlt', rIndex_eq, hix, rConvert_eq, go_convert, isNew2, hw8, hcv, hsub, hbq, hquo, hcond, hm1, hm2, hsu]
      refine ⟨_, ?_, i + 1, m * 10 + d, rfl, hlt, by omega, ⟨?_, ?_⟩, ⟨?_, ?_⟩, ⟨?_, ?_⟩, ?_⟩
      case refine_8 =>
        rw [← hre, hdr]
        conv => rhs; unfold refB
        rw [hdd, if_neg hov]
      all_goals first | (simp only [zEA, Nat.reduceShiftRight, Nat.reduceMod, Nat.reduceEqDiff, Nat.reduceAdd, ↓reduceIte, reduceCtorEq, g0, k0, g4, k4]; done) | omega
  · have hlt' : (Int.ofNat i < Int.ofNat l.length) = False := by simpa using fun h => hlt (Int.ofNat_lt.1 h)
    simp only [zEV, Nat.reduceShiftRight, Nat.reduceMod, Nat.reduceEqDiff, Nat.reduceAdd, ↓reduceIte, reduceCtorEq, g0, k0, g4, k4, g5, k5, len_str, hlt', hres]
    have hn : refB 9223372036854775808 0 l = some m := by
      rw [← hre, List.drop_of_length_le (by omega)]; rfl
    rw [hn] at hK
    exact hK _
theorem slice_lo1 (X : T Ext) (look : Look) (c : UInt8) (r : List UInt8) : slice (En X) 9 (.str (Str.ofL (c :: r))) (some (.int .i64 1)) none none look = some (.str (Str.ofL r)) := by
  have h : slice (En X) 9 (.str (Str.ofL (c :: r))) (some (.int .i64 (Int.ofNat 1))) none none look = some (.str ((Str.ofL (c :: r)).sub 1 (c :: r).length)) := by
    unfold slice
    rw [ustr9]
    show cutStr (Str.ofL (c :: r)) none (cut3 (some (.int .i64 (Int.ofNat 1))) none none (c :: r).length (c :: r).length) = _
    have : cut3 (some (.int .i64 (Int.ofNat 1))) none none (c :: r).length (c :: r).length = some (1, (c :: r).length, (c :: r).length) := by
      unfold cut3 bound
      simp only [inB_nat (show 1 < (c :: r).length + 1 by simp)]
    rw [this]; rfl
  rw [show (1 : Int) = Int.ofNat 1 from rfl, h, Str.sub_ofL _ _ _ (by simp) (Nat.le_refl _)]
  simp
theorem take_all {l : List UInt8} {i : Nat} {c : UInt8} (h : (l.take i).all dig = true) (hc : l[i]? = some c) (hd : dig c = true) : (l.take (i + 1)).all dig = true := by
  rw [List.take_add_one, hc, List.all_append, h]
  simp [hd]
theorem num66 (X : T Ext) (hX : (En X).ext.get 66 = none) (hX11 : (En X).ext.get 83 = none) (hX12 : (En X).ext.get 84 = none) (l : List UInt8) (hl : l.length ≤ 140737488351232) (s : St) (K : V → St → Prop) (hK : ∀ s', K (resN (refNum l)) s') :
    goC (En X) 66 [.c (.str (Str.ofL l))] s K := by
  refine goC_body hX (kp66 X) (fn66 X) rfl (by kernel_rfl) ?_
  have hres : Tryd.f66.results.toList = [.tmp 2, .tmp 3] := rfl
  have hz : (0 < Int.ofNat 0) = False := eq_false (by decide)
  cases l with
  | nil =>
    have hl0 : (0 < Int.ofNat ([] : List UInt8).length) = False := eq_false (by decide)
    simp only [zEV, Nat.reduceShiftRight, Nat.reduceMod, Nat.reduceEqDiff, Nat.reduceAdd, ↓reduceIte, reduceCtorEq, len_str, hl0]
    refine go_loop (goL_inv (fun n a' s' => ∃ i, n = (([] : List UInt8)).length - i ∧ i ≤ (([] : List UInt8)).length ∧ Has a' 0 (vc (.str (Str.ofL (([] : List UInt8))))) ∧ Has a' 4 (vc (.bool false)) ∧ Has a' 5 (vc (.int .i64 (Int.ofNat i))) ∧ ((([] : List UInt8)).take i).all dig = true) (n := (([] : List UInt8)).length)
      ⟨0, rfl, Nat.zero_le _, ⟨rfl, rfl⟩, ⟨rfl, rfl⟩, ⟨rfl, rfl⟩, rfl⟩ ?_)
    rintro n a' s' ⟨i, rfl, hi, ⟨g0, k0⟩, ⟨g4, k4⟩, ⟨g5, k5⟩, htk⟩
    have hlt : ¬ i < ([] : List UInt8).length := by simp
    · have hlt' : (Int.ofNat i < Int.ofNat (([] : List UInt8)).length) = False := by simpa using fun h => hlt (Int.ofNat_lt.1 h)
      have hall : (([] : List UInt8)).all dig = true := by
        rw [List.take_of_length_le (by omega)] at htk; exact htk
      have e0 : (Int.ofNat ([] : List UInt8).length = 0) = True := eq_true rfl
      simp only [zEV, Nat.reduceShiftRight, Nat.reduceMod, Nat.reduceEqDiff, Nat.reduceAdd, ↓reduceIte, reduceCtorEq, g0, k0, g4, k4, g5, k5, len_str, hlt', e0, hres]
      exact hK _
  | cons c r =>
    have hl1 : (0 < Int.ofNat (c :: r).length) = True := eq_true (by show (0 : Int) < (((c :: r).length : Nat) : Int); rw [List.length_cons]; omega)
    have hi0' : index (En X) 9 (.c (.str (Str.ofL (c :: r)))) 0 = some (.c (.int .u8 (Int.ofNat c.toNat))) := index_str X (c :: r) (i := 0) (c := c) rfl
    by_cases h45 : c.toNat = 45
    · have e45 : (Int.ofNat c.toNat = 45) = True := eq_true (by show ((c.toNat : Nat) : Int) = 45; omega)
      have hlr : r.length ≤ 140737488351232 := by rw [List.length_cons] at hl; omega
      simp only [zEV, Nat.reduceShiftRight, Nat.reduceMod, Nat.reduceEqDiff, Nat.reduceAdd, ↓reduceIte, reduceCtorEq, len_str, hl1, rIndex_eq, hi0', e45, rSlice_lo, slice_lo1]
      refine go_loop (goL_inv (fun n a' s' => ∃ i, n = (r).length - i ∧ i ≤ (r).length ∧ Has a' 0 (vc (.str (Str.ofL (r)))) ∧ Has a' 4 (vc (.bool true)) ∧ Has a' 5 (vc (.int .i64 (Int.ofNat i))) ∧ ((r).take i).all dig = true) (n := (r).length)
        ⟨0, rfl, Nat.zero_le _, ⟨rfl, rfl⟩, ⟨rfl, rfl⟩, ⟨rfl, rfl⟩, rfl⟩ ?_)
      rintro n a' s' ⟨i, rfl, hi, ⟨g0, k0⟩, ⟨g4, k4⟩, ⟨g5, k5⟩, htk⟩
      by_cases hlt : i < (r).length
      · obtain ⟨x, hc⟩ : ∃ x, (r)[i]? = some x := ⟨_, List.getElem?_eq_getElem hlt⟩
        have hix := index_str X (r) hc
        have hlt' : (Int.ofNat i < Int.ofNat (r).length) = True := by simpa using Int.ofNat_lt.2 hlt
        have hsu := nat_succ (show i < 9223372036854775807 by omega)
        by_cases h48 : x.toNat < 48
        · have e1 : (Int.ofNat x.toNat < 48) = True := eq_true (by show ((x.toNat : Nat) : Int) < 48; omega)
          have hnd : (r).all dig = false := not_dig (List.mem_of_getElem? hc) (by cases hq : dig x with | false => rfl | true => have := (dig_iff x).1 hq; omega)
          simp only [zEV, Nat.reduceShiftRight, Nat.reduceMod, Nat.reduceEqDiff, Nat.reduceAdd, ↓reduceIte, reduceCtorEq, g0, k0, g4, k4, g5, k5, len_str, hlt', rIndex_eq, hix, e1, hres]
          rw [refNum_cons, if_pos h45, if_neg (by rw [hnd]; simp)] at hK
          exact hK _
        · have e1 : (Int.ofNat x.toNat < 48) = False := eq_false (by show ¬ ((x.toNat : Nat) : Int) < 48; omega)
          by_cases h57 : 57 < x.toNat
          · have e2 : (57 < Int.ofNat x.toNat) = True := eq_true (by show (57 : Int) < ((x.toNat : Nat) : Int); omega)
            have hnd : (r).all dig = false := not_dig (List.mem_of_getElem? hc) (by cases hq : dig x with | false => rfl | true => have := (dig_iff x).1 hq; omega)
            simp only [zEV, Nat.reduceShiftRight, Nat.reduceMod, Nat.reduceEqDiff, Nat.reduceAdd, ↓reduceIte, reduceCtorEq, g0, k0, g4, k4, g5, k5, len_str, hlt', rIndex_eq, hix, e1, e2, hres]
            rw [refNum_cons, if_pos h45, if_neg (by rw [hnd]; simp)] at hK
            exact hK _
          · have e2 : (57 < Int.ofNat x.toNat) = False := eq_false (by show ¬ (57 : Int) < ((x.toNat : Nat) : Int); omega)
            have hdx : dig x = true := (dig_iff x).2 ⟨by omega, by omega⟩
            simp only [zEV, Nat.reduceShiftRight, Nat.reduceMod, Nat.reduceEqDiff, Nat.reduceAdd, ↓reduceIte, reduceCtorEq, g0, k0, g4, k4, g5, k5, len_str, hlt', rIndex_eq, hix, e1, e2, hsu]
            refine ⟨_, ?_, i + 1, rfl, hlt, ⟨?_, ?_⟩, ⟨?_, ?_⟩, ⟨?_, ?_⟩, take_all htk hc hdx⟩
            all_goals first | (simp only [zEA, Nat.reduceShiftRight, Nat.reduceMod, Nat.reduceEqDiff, Nat.reduceAdd, ↓reduceIte, reduceCtorEq, g0, k0, g4, k4]; done) | omega
      · have hlt' : (Int.ofNat i < Int.ofNat (r).length) = False := by simpa using fun h => hlt (Int.ofNat_lt.1 h)
        have hall : (r).all dig = true := by
          rw [List.take_of_length_le (by omega)] at htk; exact htk
        cases r with
        | nil =>
          have e0 : (Int.ofNat ([] : List UInt8).length = 0) = True := eq_true rfl
          simp only [zEV, Nat.reduceShiftRight, Nat.reduceMod, Nat.reduceEqDiff, Nat.reduceAdd, ↓reduceIte, reduceCtorEq, g0, k0, g4, k4, g5, k5, len_str, hlt', e0, hres]
          rw [show refNum [c] = none by rw [refNum_cons, if_pos h45, if_neg (by simp)]] at hK
          exact hK _
        | cons y r =>
          have e0 : (Int.ofNat (y :: r).length = 0) = False := eq_false (by show ¬ (((y :: r).length : Nat) : Int) = 0; rw [List.length_cons]; omega)
          simp only [zEV, Nat.reduceShiftRight, Nat.reduceMod, Nat.reduceEqDiff, Nat.reduceAdd, ↓reduceIte, reduceCtorEq, g0, k0, g4, k4, g5, k5, len_str, hlt', e0]
          refine go_call _ _ _ _ _ _ (ws := [.c (.str (Str.ofL (y :: r)))]) rfl (by simp only [zEA, Nat.reduceShiftRight, Nat.reduceMod, Nat.reduceEqDiff, Nat.reduceAdd, ↓reduceIte, reduceCtorEq, argsOf_cons, argsOf_nil]) ?_
          refine turned11 X hX11 _ hall (by rw [List.length_cons] at hl; omega) _ _ fun s2 => ?_
          rw [refNum_cons, if_pos h45, if_pos ⟨hall, by simp⟩] at hK
          simp only [zEV, Nat.reduceShiftRight, Nat.reduceMod, Nat.reduceEqDiff, Nat.reduceAdd, ↓reduceIte, reduceCtorEq, resN, hres]
          exact hK _
    · have e45 : (Int.ofNat c.toNat = 45) = False := eq_false (by show ¬ ((c.toNat : Nat) : Int) = 45; omega)
      simp only [zEV, Nat.reduceShiftRight, Nat.reduceMod, Nat.reduceEqDiff, Nat.reduceAdd, ↓reduceIte, reduceCtorEq, len_str, hl1, rIndex_eq, hi0', e45]
      refine go_loop (goL_inv (fun n a' s' => ∃ i, n = (c :: r).length - i ∧ i ≤ (c :: r).length ∧ Has a' 0 (vc (.str (Str.ofL (c :: r)))) ∧ Has a' 4 (vc (.bool false)) ∧ Has a' 5 (vc (.int .i64 (Int.ofNat i))) ∧ ((c :: r).take i).all dig = true) (n := (c :: r).length)
        ⟨0, rfl, Nat.zero_le _, ⟨rfl, rfl⟩, ⟨rfl, rfl⟩, ⟨rfl, rfl⟩, rfl⟩ ?_)
      rintro n a' s' ⟨i, rfl, hi, ⟨g0, k0⟩, ⟨g4, k4⟩, ⟨g5, k5⟩, htk⟩
      by_cases hlt : i < (c :: r).length
      · obtain ⟨x, hc⟩ : ∃ x, (c :: r)[i]? = some x := ⟨_, List.getElem?_eq_getElem hlt⟩
        have hix := index_str X (c :: r) hc
        have hlt' : (Int.ofNat i < Int.ofNat (c :: r).length) = True := by simpa using Int.ofNat_lt.2 hlt
        have hsu := nat_succ (show i < 9223372036854775807 by omega)
        by_cases h48 : x.toNat < 48
        · have e1 : (Int.ofNat x.toNat < 48) = True := eq_true (by show ((x.toNat : Nat) : Int) < 48; omega)
          have hnd : (c :: r).all dig = false := not_dig (List.mem_of_getElem? hc) (by cases hq : dig x with | false => rfl | true => have := (dig_iff x).1 hq; omega)
          simp only [zEV, Nat.reduceShiftRight, Nat.reduceMod, Nat.reduceEqDiff, Nat.reduceAdd, ↓reduceIte, reduceCtorEq, g0, k0, g4, k4, g5, k5, len_str, hlt', rIndex_eq, hix, e1, hres]
          rw [refNum_cons, if_neg h45, if_neg (by rw [hnd]; simp)] at hK
          exact hK _
        · have e1 : (Int.ofNat x.toNat < 48) = False := eq_false (by show ¬ ((x.toNat : Nat) : Int) < 48; omega)
          by_cases h57 : 57 < x.toNat
          · have e2 : (57 < Int.ofNat x.toNat) = True := eq_true (by show (57 : Int) < ((x.toNat : Nat) : Int); omega)
            have hnd : (c :: r).all dig = false := not_dig (List.mem_of_getElem? hc) (by cases hq : dig x with | false => rfl | true => have := (dig_iff x).1 hq; omega)
            simp only [zEV, Nat.reduceShiftRight, Nat.reduceMod, Nat.reduceEqDiff, Nat.reduceAdd, ↓reduceIte, reduceCtorEq, g0, k0, g4, k4, g5, k5, len_str, hlt', rIndex_eq, hix, e1, e2, hres]
            rw [refNum_cons, if_neg h45, if_neg (by rw [hnd]; simp)] at hK
            exact hK _
          · have e2 : (57 < Int.ofNat x.toNat) = False := eq_false (by show ¬ (57 : Int) < ((x.toNat : Nat) : Int); omega)
            have hdx : dig x = true := (dig_iff x).2 ⟨by omega, by omega⟩
            simp only [zEV, Nat.reduceShiftRight, Nat.reduceMod, Nat.reduceEqDiff, Nat.reduceAdd, ↓reduceIte, reduceCtorEq, g0, k0, g4, k4, g5, k5, len_str, hlt', rIndex_eq, hix, e1, e2, hsu]
            refine ⟨_, ?_, i + 1, rfl, hlt, ⟨?_, ?_⟩, ⟨?_, ?_⟩, ⟨?_, ?_⟩, take_all htk hc hdx⟩
            all_goals first | (simp only [zEA, Nat.reduceShiftRight, Nat.reduceMod, Nat.reduceEqDiff, Nat.reduceAdd, ↓reduceIte, reduceCtorEq, g0, k0, g4, k4]; done) | omega
      · have hlt' : (Int.ofNat i < Int.ofNat (c :: r).length) = False := by simpa using fun h => hlt (Int.ofNat_lt.1 h)
        have hall : (c :: r).all dig = true := by
          rw [List.take_of_length_le (by omega)] at htk; exact htk
        have e0 : (Int.ofNat (c :: r).length = 0) = False := eq_false (by show ¬ (((c :: r).length : Nat) : Int) = 0; rw [List.length_cons]; omega)
        simp only [zEV, Nat.reduceShiftRight, Nat.reduceMod, Nat.reduceEqDiff, Nat.reduceAdd, ↓reduceIte, reduceCtorEq, g0, k0, g4, k4, g5, k5, len_str, hlt', e0]
        refine go_call _ _ _ _ _ _ (ws := [.c (.str (Str.ofL (c :: r)))]) rfl (by simp only [zEA, Nat.reduceShiftRight, Nat.reduceMod, Nat.reduceEqDiff, Nat.reduceAdd, ↓reduceIte, reduceCtorEq, argsOf_cons, argsOf_nil]) ?_
        refine digits12 X hX12 _ hall hl _ _ fun s2 => ?_
        rw [refNum_cons, if_neg h45, if_pos hall] at hK
        simp only [zEV, Nat.reduceShiftRight, Nat.reduceMod, Nat.reduceEqDiff, Nat.reduceAdd, ↓reduceIte, reduceCtorEq, resN, hres]
        exact hK _

def RRn (ps : List PW) (v : PV) : Prop := ∃ l, ps = [.c (.str (Str.ofL l))] ∧ l.length ≤ 140737488351232 ∧ v = pvP ((refNum l).getD 0, (refNum l).isSome)
noncomputable def e66 : Nat × Ext := (66, .fn (ofG RRn) [])
theorem c66 : Ok e66 := fn_of_go_g (exts := []) ok0 rfl [] rfl _ (by
  rintro ps pv ⟨l, rfl, hl, rfl⟩
  exact num66 _ rfl rfl rfl l hl _ _ fun s' => ⟨[], rfl⟩)
theorem callR_rn {X : T Ext} (h66 : (En X).ext.get 66 = some (.fn (ofG RRn) [])) (l : List UInt8) (hl : l.length ≤ 140737488351232) (s : St) : CallR (En X) 66 [.c (.str (Str.ofL l))] s (.tup [.c (.int .i64 ((refNum l).getD 0)), .c (.bool (refNum l).isSome)]) s :=
  callR_fn (ps := [.c (.str (Str.ofL l))]) (pv := pvP ((refNum l).getD 0, (refNum l).isSome)) h66 (ofG_eq ⟨l, rfl, hl, rfl⟩ (by rintro v' ⟨l', h1, _, rfl⟩; rw [str_one h1])) rfl
end Ar

namespace Ar
open Go Go.Proofs Ev Go.Lib Nu
set_option linter.unusedVariables false
set_option linter.unusedSimpArgs false
set_option linter.unnecessarySimpa false
set_option maxRecDepth 100000
def REat (ds : List D) (ps : List PW) (v : PV × List D) : Prop := ∃ s l d f m p, ds = rkL s l d f m ∧ l <:+ s ∧ s.length ≤ 1000 ∧ d.plain = true ∧ p.length ≤ 2 ∧ ps = [.c (.str (Str.ofL p))] ∧ v = (.w (.c (.bool (eatB f l p))), rkL s (eatL f l p) d f m)
noncomputable def e24 : Nat × Ext := (24, .me (ofM REat) [])
theorem c24 : Ok e24 := me_goE (exts := [e14]) Ak.any_ok types_ok fns_ok (ok1 c14 ok0) REat (fun _ _ _ _ x hx => by cases hx) (by
  rintro ds ps pv ds' ⟨s, l, d, f, m, p, rfl, hl, hs, hd, hp, rfl, h⟩
  cases h
  exact eat24 _ rfl rfl s l p hl hs hp d hd f m _ _ _ (stM_LRow _ _) fun s' hr => meR (bs := []) hd rfl (fun h => by cases h) hr)
theorem callR_eat {X : T Ext} (h24 : (En X).ext.get 24 = some (.me (ofM REat) [])) {s l : List UInt8} {d : D} {f m : Bool} (hl : l <:+ s) (hs : s.length ≤ 1000) (hd : d.plain = true) (p : List UInt8) (hp : p.length ≤ 2) {b : Nat} {S : St} (hr : LRow S b (cellsD (rkL s l d f m))) :
    ∃ S2, CallR (En X) 24 [.c (.ptr b 0), .c (.str (Str.ofL p))] S (.w (.c (.bool (eatB f l p)))) S2 ∧ LRow S2 b (cellsD (rkL s (eatL f l p) d f m)) ∧ S2.nx = S.nx ∧ ∀ x, x ≠ b → S2.h.get x = S.h.get x :=
  callR_me (ps := [.c (.str (Str.ofL p))]) (pv := .w (.c (.bool (eatB f l p)))) h24 hr (rk_plain hd) rfl ⟨s, l, d, f, m, p, rfl, hl, hs, hd, hp, rfl, rfl⟩ (by
    rintro v ⟨s', l', d', f', m', p', h1, hl', _, _, _, h2, rfl⟩
    obtain ⟨rfl, rfl, rfl, rfl, rfl⟩ := rkL_inj hl hl' h1
    rw [str_one h2]) rfl
theorem st4' (X : T Ext) (s : St) (b o : Nat) (w : W) : store (En X) 4 s b o w = if w.cells.length = 1 then writeL s b o w.cells else none := st4 X s b o w
theorem value69 (X : T Ext) (hX : (En X).ext.get 69 = none) (h66 : (En X).ext.get 66 = some (.fn (ofG RRn) [])) {d : D} {vs : List (List UInt8 × List UInt8)} (hv : IsV d vs) (hn : vs.length ≤ 1000) (hvl : ∀ x ∈ vs, x.2.length ≤ 140737488351232) (name s : List UInt8) (i : Nat) (f m : Bool) (b : Nat) (S : St) (K : V → St → Prop)
    (hr : LRow S b (cellsD (rkD s i d f m))) (hK : ∀ S' : St, LRow S' b (cellsD (rkD s i d f (m || !(valV name vs).2))) → K (.w (.c (.int .i64 (valV name vs).1))) S') : goC (En X) 69 [.c (.ptr b 0), .c (.str (Str.ofL name))] S K := by
  refine goC_body hX (kp69 X) (fn69 X) rfl (by kernel_rfl) ?_
  have hres : Tryd.f69.results.toList = [.tmp 4] := rfl
  have hva := valV_at name vs
  have hlv : ∀ look, len (En X) 22 look d.toC = some vs.length := fun look => by rw [len_els (us22 X) hv.1, hv.2, List.length_map]
  simp only [zEV, Nat.reduceShiftRight, Nat.reduceMod, Nat.reduceEqDiff, Nat.reduceAdd, ↓reduceIte, reduceCtorEq]
  refine go_loop (goL_inv (fun n a' S' => ∃ j, n = vs.length - j ∧ j ≤ idxV name vs ∧ Has a' 0 (vc (.ptr b 0)) ∧ Has a' 1 (vc (.str (Str.ofL name))) ∧ Has a' 5 (vc (.int .i64 (Int.ofNat j))) ∧ LRow S' b (cellsD (rkD s i d f m))) (n := vs.length)
    ⟨0, rfl, Nat.zero_le _, ⟨rfl, rfl⟩, ⟨rfl, rfl⟩, ⟨rfl, rfl⟩, hr⟩ ?_)
  rintro n a' S' ⟨j, rfl, hj, ⟨g0, k0⟩, ⟨g1, k1⟩, ⟨g5, k5⟩, r1⟩
  have c2 := rk2 r1
  have c4 := rk4 r1
  have hile := idxV_le name vs
  by_cases hlt : j < vs.length
  · have hlt' : (Int.ofNat j < Int.ofNat vs.length) = True := eq_true (Int.ofNat_lt.2 hlt)
    obtain ⟨x, hx⟩ : ∃ x, vs[j]? = some x := ⟨_, List.getElem?_eq_getElem hlt⟩
    have hxe : (els d)[j]? = some (elV x) := by rw [hv.2, List.getElem?_map, hx]; rfl
    have hia := index_els (us22 X) (sz32 X) hv.1 hxe
    have hl0 : ldC (elV x) 0 = some (.c (.str (Str.ofL x.1))) := rfl
    have hl1 : ldC (elV x) 1 = some (.c (.str (Str.ofL x.2))) := rfl
    have hsu := nat_succ (show j < 9223372036854775807 by omega)
    have hst := idxV_step name vs j x hj hx
    by_cases hq : x.1 = name
    · have hb : (x.1 == name) = true := by rw [hq]; simp
      have hji := hst.1 hq
      obtain ⟨y, hy, hval⟩ := hva.1 (by omega)
      rw [hji, hx] at hy
      cases hy
      by_cases hz : x.2 = []
      · have hb2 : (x.2 == ([] : List UInt8)) = true := by rw [hz]; rfl
        rw [hval, if_pos hz, Bool.not_true, Bool.or_false] at hK
        simp only [zEV, Nat.reduceShiftRight, Nat.reduceMod, Nat.reduceEqDiff, Nat.reduceAdd, ↓reduceIte, reduceCtorEq, g0, k0, g1, k1, g5, k5, rNil_eq, fA_43_2, ldh22, c2, hlv, hlt', hia, fD_32_0, fD_32_1, Nat.zero_add, ld9, hl0, hl1, hb, lit_0, hb2, hres]
        exact hK _ r1
      · have hb2 : (x.2 == ([] : List UInt8)) = false := by simpa using hz
        rw [hval, if_neg hz] at hK
        simp only [zEV, Nat.reduceShiftRight, Nat.reduceMod, Nat.reduceEqDiff, Nat.reduceAdd, ↓reduceIte, reduceCtorEq, g0, k0, g1, k1, g5, k5, rNil_eq, fA_43_2, ldh22, c2, hlv, hlt', hia, fD_32_0, fD_32_1, Nat.zero_add, ld9, hl0, hl1, hb, lit_0, hb2]
        refine go_call _ _ _ _ _ _ (ws := [.c (.str (Str.ofL x.2))]) rfl (by simp only [zEA, Nat.reduceShiftRight, Nat.reduceMod, Nat.reduceEqDiff, Nat.reduceAdd, ↓reduceIte, reduceCtorEq, argsOf_cons, argsOf_nil]) ?_
        refine goC_of (callR_rn h66 x.2 (hvl x (List.mem_of_getElem? hx)) _) ?_
        have hc1 : ([.bool (m || !(refNum x.2).isSome)] : List C).length = 1 := rfl
        obtain ⟨S3, w3, r3, n3, f3⟩ := rk_set4 r1 (m || !(refNum x.2).isSome)
        cases m with
        | true =>
          rw [Bool.true_or] at w3 hc1
          simp only [zEV, Nat.reduceShiftRight, Nat.reduceMod, Nat.reduceEqDiff, Nat.reduceAdd, ↓reduceIte, reduceCtorEq, g0, k0, g1, k1, g5, k5, rNil_eq, fA_43_4, ldh4, c4, st4, hc1, w3, hres]
          exact hK _ r3
        | false =>
          rw [Bool.false_or] at w3 hc1
          simp only [zEV, Nat.reduceShiftRight, Nat.reduceMod, Nat.reduceEqDiff, Nat.reduceAdd, ↓reduceIte, reduceCtorEq, g0, k0, g1, k1, g5, k5, rNil_eq, fA_43_4, ldh4, c4, st4, hc1, w3, hres]
          exact hK _ r3
    · have hb : (x.1 == name) = false := by simpa using hq
      simp only [zEV, Nat.reduceShiftRight, Nat.reduceMod, Nat.reduceEqDiff, Nat.reduceAdd, ↓reduceIte, reduceCtorEq, g0, k0, g1, k1, g5, k5, rNil_eq, fA_43_2, ldh22, c2, hlv, hlt', hia, fD_32_0, Nat.zero_add, ld9, hl0, hb, hsu]
      refine ⟨_, ?_, j + 1, rfl, hst.2 hq, ⟨?_, ?_⟩, ⟨?_, ?_⟩, ⟨?_, ?_⟩, r1⟩
      all_goals first | (simp only [zEA, Nat.reduceShiftRight, Nat.reduceMod, Nat.reduceEqDiff, Nat.reduceAdd, ↓reduceIte, reduceCtorEq, g0, k0, g1, k1, g5, k5]; done) | omega
  · have hlt' : (Int.ofNat j < Int.ofNat vs.length) = False := eq_false (fun h => hlt (Int.ofNat_lt.1 h))
    rw [hva.2 (by omega), Bool.not_true, Bool.or_false] at hK
    simp only [zEV, Nat.reduceShiftRight, Nat.reduceMod, Nat.reduceEqDiff, Nat.reduceAdd, ↓reduceIte, reduceCtorEq, g0, k0, g1, k1, g5, k5, rNil_eq, fA_43_2, ldh22, c2, hlv, hlt', hres]
    exact hK _ r1
def RVl (ds : List D) (ps : List PW) (v : PV × List D) : Prop := ∃ s i d f m vs name, ds = rkD s i d f m ∧ IsV d vs ∧ okVs vs ∧ ps = [.c (.str (Str.ofL name))] ∧ v = (.w (.c (.int .i64 (valV name vs).1)), rkD s i d f (m || !(valV name vs).2))
noncomputable def e69 : Nat × Ext := (69, .me (ofM RVl) [])
theorem meR0 {pv : PV} {s : List UInt8} {i : Nat} {d : D} {f m : Bool} {v : V} {s' : St} {bs : List Nat} (hd : d.plain = true) (h : frzV s'.h.get v = some (pv, bs)) (hb : Tryd.prog.globals.size ∉ bs) (hr : LRow s' Tryd.prog.globals.size (cellsD (rkD s i d f m))) :
    ∃ bs l' bs2, frzV s'.h.get v = some (pv, bs) ∧ Tryd.prog.globals.size ∉ bs ∧ LRow s' Tryd.prog.globals.size l' ∧ mapO (frzC s'.h.get 2000) l' = some (rkD s i d f m, bs2) ∧ Tryd.prog.globals.size ∉ bs2 :=
  ⟨bs, _, [], h, hb, hr, rk_frz _ hd, fun h => by cases h⟩
theorem c69 : Ok e69 := me_goE (exts := [e66]) Ak.any_ok types_ok fns_ok (ok1 c66 ok0) RVl (fun _ _ _ _ x hx => by cases hx) (by
  rintro ds ps pv ds' ⟨s, i, d, f, m, vs, name, rfl, hv, ho, rfl, h⟩
  cases h
  exact value69 _ rfl rfl hv ho.1 ho.2 name s i f m _ _ _ (stM_LRow _ _) fun s' hr => meR0 (bs := []) (isV_plain hv) rfl (fun h => by cases h) hr)
theorem callR_vl {X : T Ext} (h69 : (En X).ext.get 69 = some (.me (ofM RVl) [])) {s : List UInt8} {i : Nat} {d : D} {vs : List (List UInt8 × List UInt8)} (hv : IsV d vs) (ho : okVs vs) {f m : Bool} (name : List UInt8) {b : Nat} {S : St} (hr : LRow S b (cellsD (rkD s i d f m))) :
    ∃ S2, CallR (En X) 69 [.c (.ptr b 0), .c (.str (Str.ofL name))] S (.w (.c (.int .i64 (valV name vs).1))) S2 ∧ LRow S2 b (cellsD (rkD s i d f (m || !(valV name vs).2))) ∧ S2.nx = S.nx ∧ ∀ x, x ≠ b → S2.h.get x = S.h.get x :=
  callR_me (ps := [.c (.str (Str.ofL name))]) (pv := .w (.c (.int .i64 (valV name vs).1))) h69 hr (rk_plain (isV_plain hv)) rfl ⟨s, i, d, f, m, vs, name, rfl, hv, ho, rfl, rfl⟩ (by
    rintro v ⟨s', i', d', f', m', vs', name', h1, hv', _, h2, rfl⟩
    obtain ⟨rfl, rfl, rfl, rfl, rfl⟩ := rkD_inj h1
    rw [str_one h2, isV_u hv hv']) rfl
end Ar
