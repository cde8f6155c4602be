import Derived.Test.YtaapmoclinjefaaDoorArA
import Derived.Test.YtaapmoclinjefaaDoorNuM
import Derived.Test.YtaapmoclinjefaaDoorEwG
import Derived.Test.YtaapmoclinjefaaDoorEwG
import Derived.Test.YtaapmoclinjefaaDoorEwL
namespace Ar
open Go Go.Proofs Ev Go.Lib Nu
set_option linter.unusedVariables false
set_option linter.unusedSimpArgs false
set_option linter.unnecessarySimpa false
set_option maxRecDepth 100000
theorem len_str (X : T Ext) (look : Look) (l : List UInt8) : len (En X) 9 look (.str (Str.ofL l)) = some l.length := by
  unfold len; rw [ustr9]; rfl
theorem rIndex_eq (E : Env) (a : A) (t : Nat) (x i : Operand) : rIndex E a t x i = match opW a x with
  | some w => match opI a i with
    | some n => retW (index E t w n)
    | none => none
  | none => none := rfl
theorem inB_nat {k n : Nat} (h : k < n) : inB (Int.ofNat k) n = some k := by
  unfold inB
  simp only []
  rw [show Nat.ble (Nat.succ k) n = true from nble_true h]
theorem index_str (X : T Ext) (l : List UInt8) {i : Nat} {c : UInt8} (h : l[i]? = some c) : index (En X) 9 (.c (.str (Str.ofL l))) (Int.ofNat i) = some (.c (.int .u8 (Int.ofNat c.toNat))) := by
  obtain ⟨hi, hc⟩ := List.getElem?_eq_some_iff.1 h
  unfold index
  rw [ustr9]
  show (match inB (Int.ofNat i) l.length with
    | some m => some (W.c (.int .u8 (Int.ofNat ((Str.ofL l).at m))))
    | none => none) = _
  rw [inB_nat hi]
  simp only []
  rw [Str.at_ofL l i hi, hc]
def resN (o : Option Int) : V := .tup [.c (.int .i64 (o.getD 0)), .c (.bool o.isSome)]
theorem nBuildSlice_eq (E : Env) (a : A) (t n : Nat) (ps : List (Nat × Operand)) (id : Nat) : nBuildSlice E a t n ps id = match partsOf a ps with
  | some l => buildSlice E t n l id
  | none => none := rfl
theorem partsOf_nil (a : A) : partsOf a [] = some [] := rfl
theorem partsOf_cons (a : A) (i : Nat) (x : Operand) (l : List (Nat × Operand)) : partsOf a ((i, x) :: l) = match opW a x with
  | none => none
  | some w => match partsOf a l with
    | none => none
    | some r => some ((i, w) :: r) := rfl
theorem readNew (s : St) (l : List C) : readL (s.new (.row (mkRow l))).h.get s.nx 0 l.length = some l := by
  have h : (s.new (.row (mkRow l))).h.get s.nx = some (.row (mkRow l)) := by rw [St.new_h]; show (if s.nx = s.nx then _ else _) = _; rw [if_pos rfl]
  rw [readL_row h, mkRow_eq, readR_ofL, if_pos (by omega)]
  simp
theorem lit_plus : Str.of { data := #[43] } = Str.ofL [43] := of_lit [43]
theorem lit_under : Str.of { data := #[95] } = Str.ofL [95] := of_lit [95]
theorem slice_hi1 (X : T Ext) (look : Look) (c : UInt8) (r : List UInt8) : slice (En X) 9 (.str (Str.ofL (c :: r))) none (some (.int .i64 (Int.ofNat 1))) none look = some (.str (Str.ofL [c])) := by
  have h : slice (En X) 9 (.str (Str.ofL (c :: r))) none (some (.int .i64 (Int.ofNat 1))) none look = some (.str ((Str.ofL (c :: r)).sub 0 1)) := by
    unfold slice
    rw [ustr9]
    show cutStr (Str.ofL (c :: r)) none (cut3 none (some (.int .i64 (Int.ofNat 1))) none (c :: r).length (c :: r).length) = _
    have : cut3 none (some (.int .i64 (Int.ofNat 1))) none (c :: r).length (c :: r).length = some (0, 1, (c :: r).length) := by
      unfold cut3 bound
      simp only [inB_nat (show 1 < (c :: r).length + 1 by simp)]
    rw [this]; rfl
  rw [h, Str.sub_ofL _ _ _ (by omega) (by simp)]
  simp
theorem rSlice_hi (E : Env) (look : Look) (a : A) (t : Nat) (x hi : Operand) : rSlice E look a t x none (some hi) none = match opC a x with
  | none => none
  | some c => match opC a hi with
    | none => none
    | some h => retC (slice E t c none (some h) none look) := by
  unfold rSlice
  simp only [optC]
  cases opC a x with
  | none => rfl
  | some c =>
    simp only []
    cases opC a hi <;> rfl
theorem prefix15 (X : T Ext) (hX15 : (En X).ext.get 41 = none) (l : List UInt8) (s : St) (K : V → St → Prop) (hK : ∀ s', K (.w (.c (.bool (l.head? == some 43)))) s') :
    goC (En X) 41 [.c (.str (Str.ofL l)), .c (.str (Str.ofL [43]))] s K := by
  refine goC_body hX15 (kp41 X) (fn41 X) rfl (by kernel_rfl) ?_
  have hres15 : Tryd.f41.results.toList = [.tmp 4] := rfl
  have h1 : Int.ofNat ([43] : List UInt8).length = Int.ofNat 1 := rfl
  cases l with
  | nil =>
    have hc : (Int.ofNat 1 ≤ Int.ofNat ([] : List UInt8).length) = False := eq_false (by decide)
    simp only [zEV, Nat.reduceShiftRight, Nat.reduceMod, Nat.reduceEqDiff, Nat.reduceAdd, ↓reduceIte, reduceCtorEq, len_str, h1, hc, hres15]
    exact hK _
  | cons c r =>
    have hc : (Int.ofNat 1 ≤ Int.ofNat (c :: r).length) = True := eq_true (by show ((1 : Nat) : Int) ≤ (((c :: r).length : Nat) : Int); rw [List.length_cons]; omega)
    have hb : (([c] : List UInt8) == [43]) = ((c :: r).head? == some 43) := by
      simp [List.head?]
    simp only [zEV, Nat.reduceShiftRight, Nat.reduceMod, Nat.reduceEqDiff, Nat.reduceAdd, ↓reduceIte, reduceCtorEq, len_str, h1, hc, rSlice_hi, slice_hi1, b_seql, hb, hres15]
    exact hK _
theorem prefix8 (X : T Ext) (hX : (En X).ext.get 27 = none) (hX15 : (En X).ext.get 41 = none) (l : List UInt8) (s : St) (K : V → St → Prop) (hK : ∀ s', K (.w (.c (.bool (l.head? == some 43)))) s') :
    goC (En X) 27 [.c (.str (Str.ofL l)), .c (.str (Str.ofL [43]))] s K := by
  refine goC_body hX (kp27 X) (fn27 X) rfl (by kernel_rfl) ?_
  have hres : Tryd.f27.results.toList = [.tmp 4] := rfl
  simp only [zEV, Nat.reduceShiftRight, Nat.reduceMod, Nat.reduceEqDiff, Nat.reduceAdd, ↓reduceIte, reduceCtorEq]
  refine go_call _ _ _ _ _ _ (ws := [.c (.str (Str.ofL l)), .c (.str (Str.ofL [43]))]) rfl (by simp only [zEA, Nat.reduceShiftRight, Nat.reduceMod, Nat.reduceEqDiff, Nat.reduceAdd, ↓reduceIte, reduceCtorEq, argsOf_cons, argsOf_nil]) ?_
  refine prefix15 X hX15 l _ _ fun s2 => ?_
  simp only [zEV, Nat.reduceShiftRight, Nat.reduceMod, Nat.reduceEqDiff, Nat.reduceAdd, ↓reduceIte, reduceCtorEq, hres]
  exact hK _
theorem findB_mem (l : List UInt8) (b : UInt8) : ∀ f i, i + f = l.length → (0 ≤ findB (Str.ofL l) b.toNat f i ↔ b ∈ l.drop i) := by
  intro f
  induction f with
  | zero =>
    intro i h
    rw [List.drop_of_length_le (by omega)]
    simp [findB]
  | succ f ih =>
    intro i h
    have hi : i < l.length := by omega
    rw [List.drop_eq_getElem_cons hi, List.mem_cons]
    unfold findB
    rw [Str.at_ofL l i hi]
    by_cases hb : l[i].toNat = b.toNat
    · rw [show Nat.beq l[i].toNat b.toNat = true by rw [hb]; exact Nat.beq_refl _]
      have : b = l[i] := (UInt8.toNat_inj.1 hb).symm
      simp [this]
    · rw [show Nat.beq l[i].toNat b.toNat = false by cases hq : Nat.beq l[i].toNat b.toNat with | false => rfl | true => exact absurd (Nat.eq_of_beq_eq_true hq) hb]
      have hne : b ≠ l[i] := fun e => hb (by rw [e])
      simp only [hne, false_or]
      exact ih (i + 1) (by omega)
theorem callR_ib {X : T Ext} (h51 : (En X).ext.get 87 = some .indexByte) (l : List UInt8) (c : UInt8) (s : St) : CallR (En X) 87 [.c (.str (Str.ofL l)), .c (.int .u8 (Int.ofNat c.toNat))] s (vc (.int .i64 (findB (Str.ofL l) c.toNat l.length 0))) s := by
  refine callR_ext h51 ?_
  have hc := c.toNat_lt
  show (match Nat.ble (Nat.succ c.toNat) 256 with
    | true => VS.ok (vc (.int .i64 (findB (Str.ofL l) c.toNat (Str.ofL l).len 0))) s
    | false => .no) = _
  rw [nble_true (by omega)]
  rfl
theorem ib34 (X : T Ext) (hX : (En X).ext.get 70 = none) (h51 : (En X).ext.get 87 = some .indexByte) (l : List UInt8) (c : UInt8) (s : St) (K : V → St → Prop) (hK : ∀ s', K (.w (.c (.int .i64 (findB (Str.ofL l) c.toNat l.length 0)))) s') :
    goC (En X) 70 [.c (.str (Str.ofL l)), .c (.int .u8 (Int.ofNat c.toNat))] s K := by
  refine goC_body hX (kp70 X) (fn70 X) rfl (by kernel_rfl) ?_
  have hres : Tryd.f70.results.toList = [.tmp 4] := rfl
  simp only [zEV, Nat.reduceShiftRight, Nat.reduceMod, Nat.reduceEqDiff, Nat.reduceAdd, ↓reduceIte, reduceCtorEq]
  refine go_call _ _ _ _ _ _ (ws := [.c (.str (Str.ofL l)), .c (.int .u8 (Int.ofNat c.toNat))]) rfl (by simp only [zEA, Nat.reduceShiftRight, Nat.reduceMod, Nat.reduceEqDiff, Nat.reduceAdd, ↓reduceIte, reduceCtorEq, argsOf_cons, argsOf_nil]) ?_
  refine goC_of (callR_ib h51 l c s) ?_
  simp only [zEV, Nat.reduceShiftRight, Nat.reduceMod, Nat.reduceEqDiff, Nat.reduceAdd, ↓reduceIte, reduceCtorEq, hres]
  exact hK _
theorem index22 (X : T Ext) (hX : (En X).ext.get 52 = none) (hX34 : (En X).ext.get 70 = none) (h51 : (En X).ext.get 87 = some .indexByte) (l : List UInt8) (s : St) (K : V → St → Prop) (hK : ∀ (n : Int) s', (0 ≤ n ↔ (95 : UInt8) ∈ l) → K (.w (.c (.int .i64 n))) s') :
    goC (En X) 52 [.c (.str (Str.ofL l)), .c (.str (Str.ofL [95]))] s K := by
  refine goC_body hX (kp52 X) (fn52 X) rfl (by kernel_rfl) ?_
  have hres : Tryd.f52.results.toList = [.tmp 4] := rfl
  have h0 : (Int.ofNat ([95] : List UInt8).length = 0) = False := eq_false (by decide)
  have h1 : (Int.ofNat ([95] : List UInt8).length = 1) = True := eq_true rfl
  have hi0 : index (En X) 9 (.c (.str (Str.ofL [95]))) 0 = some (.c (.int .u8 (Int.ofNat (95 : UInt8).toNat))) := index_str X [95] (i := 0) (c := 95) rfl
  by_cases hq : l = [95]
  · subst hq
    have hb : (([95] : List UInt8) == [95]) = true := by decide
    simp only [zEV, Nat.reduceShiftRight, Nat.reduceMod, Nat.reduceEqDiff, Nat.reduceAdd, ↓reduceIte, reduceCtorEq, len_str, h0, b_seql, hb, hres]
    exact hK 0 _ ⟨fun _ => by simp, fun _ => Int.le_refl 0⟩
  · have hb : (([95] : List UInt8) == l) = false := by simpa using fun e => hq e.symm
    simp only [zEV, Nat.reduceShiftRight, Nat.reduceMod, Nat.reduceEqDiff, Nat.reduceAdd, ↓reduceIte, reduceCtorEq, len_str, h0, b_seql, hb, h1, rIndex_eq, hi0]
    refine go_call _ _ _ _ _ _ (ws := [.c (.str (Str.ofL l)), .c (.int .u8 (Int.ofNat (95 : UInt8).toNat))]) rfl (by simp only [zEA, Nat.reduceShiftRight, Nat.reduceMod, Nat.reduceEqDiff, Nat.reduceAdd, ↓reduceIte, reduceCtorEq, argsOf_cons, argsOf_nil]) ?_
    refine ib34 X hX34 h51 l 95 _ _ fun s2 => ?_
    simp only [zEV, Nat.reduceShiftRight, Nat.reduceMod, Nat.reduceEqDiff, Nat.reduceAdd, ↓reduceIte, reduceCtorEq, hres]
    exact hK _ _ (by rw [findB_mem l 95 l.length 0 (by omega)]; simp)
theorem index16 (X : T Ext) (hX : (En X).ext.get 42 = none) (hX22 : (En X).ext.get 52 = none) (hX34 : (En X).ext.get 70 = none) (h51 : (En X).ext.get 87 = some .indexByte) (l : List UInt8) (s : St) (K : V → St → Prop) (hK : ∀ (n : Int) s', (0 ≤ n ↔ (95 : UInt8) ∈ l) → K (.w (.c (.int .i64 n))) s') :
    goC (En X) 42 [.c (.str (Str.ofL l)), .c (.str (Str.ofL [95]))] s K := by
  refine goC_body hX (kp42 X) (fn42 X) rfl (by kernel_rfl) ?_
  have hres : Tryd.f42.results.toList = [.tmp 4] := rfl
  simp only [zEV, Nat.reduceShiftRight, Nat.reduceMod, Nat.reduceEqDiff, Nat.reduceAdd, ↓reduceIte, reduceCtorEq]
  refine go_call _ _ _ _ _ _ (ws := [.c (.str (Str.ofL l)), .c (.str (Str.ofL [95]))]) rfl (by simp only [zEA, Nat.reduceShiftRight, Nat.reduceMod, Nat.reduceEqDiff, Nat.reduceAdd, ↓reduceIte, reduceCtorEq, argsOf_cons, argsOf_nil]) ?_
  refine index22 X hX22 hX34 h51 l _ _ fun n s2 hn => ?_
  simp only [zEV, Nat.reduceShiftRight, Nat.reduceMod, Nat.reduceEqDiff, Nat.reduceAdd, ↓reduceIte, reduceCtorEq, hres]
  exact hK n _ hn
theorem contains9 (X : T Ext) (hX : (En X).ext.get 28 = none) (hX16 : (En X).ext.get 42 = none) (hX22 : (En X).ext.get 52 = none) (hX34 : (En X).ext.get 70 = none) (h51 : (En X).ext.get 87 = some .indexByte) (l : List UInt8) (s : St) (K : V → St → Prop) (hK : ∀ s', K (.w (.c (.bool (l.contains 95)))) s') :
    goC (En X) 28 [.c (.str (Str.ofL l)), .c (.str (Str.ofL [95]))] s K := by
  refine goC_body hX (kp28 X) (fn28 X) rfl (by kernel_rfl) ?_
  have hres : Tryd.f28.results.toList = [.tmp 4] := rfl
  simp only [zEV, Nat.reduceShiftRight, Nat.reduceMod, Nat.reduceEqDiff, Nat.reduceAdd, ↓reduceIte, reduceCtorEq]
  refine go_call _ _ _ _ _ _ (ws := [.c (.str (Str.ofL l)), .c (.str (Str.ofL [95]))]) rfl (by simp only [zEA, Nat.reduceShiftRight, Nat.reduceMod, Nat.reduceEqDiff, Nat.reduceAdd, ↓reduceIte, reduceCtorEq, argsOf_cons, argsOf_nil]) ?_
  refine index16 X hX16 hX22 hX34 h51 l _ _ fun n s2 hn => ?_
  have hd : decide (0 ≤ n) = l.contains 95 := by
    rw [Bool.eq_iff_iff, decide_eq_true_iff, hn]; simp
  rw [← hd] at hK
  simp only [zEV, Nat.reduceShiftRight, Nat.reduceMod, Nat.reduceEqDiff, Nat.reduceAdd, ↓reduceIte, reduceCtorEq, hres]
  exact hK _
end Ar
