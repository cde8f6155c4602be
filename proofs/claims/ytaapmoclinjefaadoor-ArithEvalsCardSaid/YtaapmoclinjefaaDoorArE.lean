import Derived.Test.YtaapmoclinjefaaDoorArD
import Derived.Test.YtaapmoclinjefaaDoorEwK
import Derived.Test.YtaapmoclinjefaaDoorEwL
namespace Ar
open Go Go.Proofs Ev Go.Lib Nu
set_option linter.unusedVariables false
set_option linter.unusedSimpArgs false
set_option linter.unnecessarySimpa false
set_option maxRecDepth 100000
theorem rConvert_eq (E : Env) (look : Look) (a : A) (s d : Nat) (x : Operand) : rConvert E look a s d x = match opC a x with
  | some c => retC (Ev.convert E s d c look)
  | none => none := rfl
theorem b_remU (E : Env) (t : Nat) (ox oy : Operand) (m n : Nat) (hn : 1 ≤ n) : Ev.binOp E .rem t ox oy (.c (.int .u64 (Int.ofNat m))) (.c (.int .u64 (Int.ofNat n))) = some (vc (.int .u64 (Int.ofNat (m % n)))) := by
  have hk : kEq .u64 .u64 = true := rfl
  have h0 : iEq (Int.ofNat n) 0 = false := by rw [iEq_eq]; simp; omega
  have ht : (Int.ofNat m).tmod (Int.ofNat n) = Int.ofNat (m % n) := rfl
  simp only [Ev.binOp, isShift, hk, intOp, h0, ht, intC_eq, retC_some]
theorem wu {n : Nat} (h : n ≤ 18446744073709551615) : wrapK .u64 (Int.ofNat n) = Int.ofNat n := by
  rw [wrapK_eq]
  refine wrap_in _ _ ?_ ?_
  · show (0 : Int) ≤ ((n : Nat) : Int); omega
  · show ((n : Nat) : Int) ≤ 18446744073709551615; omega
theorem b_quoU (E : Env) (t : Nat) (ox oy : Operand) (m n : Nat) (hn : 1 ≤ n) (hm : m ≤ 18446744073709551615) : Ev.binOp E .quo t ox oy (.c (.int .u64 (Int.ofNat m))) (.c (.int .u64 (Int.ofNat n))) = some (vc (.int .u64 (Int.ofNat (m / n)))) := by
  have hk : kEq .u64 .u64 = true := rfl
  have h0 : iEq (Int.ofNat n) 0 = false := by rw [iEq_eq]; simp; omega
  have ht : (Int.ofNat m).tdiv (Int.ofNat n) = Int.ofNat (m / n) := rfl
  have hw := wu (n := m / n) (Nat.le_trans (Nat.div_le_self _ _) hm)
  simp only [Ev.binOp, isShift, hk, intOp, h0, ht, hw, intC_eq, retC_some]
theorem cv485 (X : T Ext) (n : Nat) (look : Look) (h : n < 256) : Ev.convert (En X) 48 5 (.int .u64 (Int.ofNat n)) look = some (.int .u8 (Int.ofNat n)) := by
  unfold Ev.convert
  rw [uint48]
  simp only []
  rw [uint5]
  show intC .u8 (wrapK .u8 (Int.ofNat n)) = _
  rw [intC_eq]
  congr 2
  rw [wrapK_eq]
  refine wrap_in _ _ ?_ ?_
  · show (0 : Int) ≤ ((n : Nat) : Int); omega
  · show ((n : Nat) : Int) ≤ 255; omega
theorem cv659 (X : T Ext) (look : Look) (b : Nat) (c : UInt8) (h : readL look b 0 1 = some [.int .u8 (Int.ofNat c.toNat)]) : Ev.convert (En X) 65 9 (.sl b 0 1 (some 1) 1) look = some (.str (Str.ofL [c])) := by
  unfold Ev.convert
  rw [us65]
  simp only []
  rw [ustr9]
  show (match readL look b 0 1 with
    | none => none
    | some l => strOfSl (En X) (.slice 5) l) = _
  rw [h]
  show strOfSl (En X) (.slice 5) [.int .u8 (Int.ofNat c.toNat)] = _
  unfold strOfSl
  simp only []
  rw [uint5]
  have hc := c.toNat_lt
  have hb : Nat.ble (Nat.succ c.toNat) 256 = true := nble_true (by omega)
  have hp := Str.push_ofL [] c
  show (match (match Nat.ble (Nat.succ c.toNat) 256 with
    | true => some (Str.nil.push c.toNat)
    | false => none) with
    | some z => some (C.str z)
    | none => none) = _
  rw [hb]
  exact congrArg (fun z => some (C.str z)) hp
theorem digits16 (X : T Ext) (hX : (En X).ext.get 16 = none) (n : Nat) : ∀ (s : St) (K : V → St → Prop), n ≤ 18446744073709551615 → (∀ s', K (.w (.c (.str (Str.ofL (digL n))))) s') →
    goC (En X) 16 [.c (.int .u64 (Int.ofNat n))] s K := by
  induction n using Nat.strongRecOn with
  | _ n ih =>
    intro s K hn hK
    refine goC_body hX (kp16 X) (fn16 X) rfl (by kernel_rfl) ?_
    have hres : Tryd.f16.results.toList = [.tmp 2] := rfl
    have hrem := fun ox oy => b_remU (En X) 48 ox oy n 10 (by omega)
    have hquo := fun ox oy => b_quoU (En X) 48 ox oy n 10 (by omega) hn
    have hadd : wrapK .u64 (48 + Int.ofNat (n % 10)) = Int.ofNat (48 + n % 10) := by
      rw [show (48 : Int) + Int.ofNat (n % 10) = Int.ofNat (48 + n % 10) from rfl]
      exact wu (by omega)
    have hcv := fun look => cv485 X (48 + n % 10) look (by omega)
    have hdt := digit_toNat n
    have hrd := readNew s [.int .u8 (Int.ofNat (UInt8.ofNat (48 + n % 10)).toNat)]
    have hcs := cv659 X _ s.nx (UInt8.ofNat (48 + n % 10)) hrd
    rw [hdt] at hcs
    have e10 : Int.ofNat 10 = 10 := rfl
    rw [e10] at hrem hquo
    by_cases h10 : 10 ≤ n
    · have hc : (10 ≤ Int.ofNat n) = True := eq_true (by show (10 : Int) ≤ ((n : Nat) : Int); omega)
      simp only [zEV, Nat.reduceShiftRight, Nat.reduceMod, Nat.reduceEqDiff, Nat.reduceAdd, ↓reduceIte, reduceCtorEq, hrem, hadd, rConvert_eq, go_convert, isNew5, isNew9, hcv, nBuildSlice_eq, partsOf_nil, partsOf_cons, bS65_1, hcs, hc, hquo]
      refine go_call _ _ _ _ _ _ (ws := [.c (.int .u64 (Int.ofNat (n / 10)))]) rfl (by simp only [zEA, Nat.reduceShiftRight, Nat.reduceMod, Nat.reduceEqDiff, Nat.reduceAdd, ↓reduceIte, reduceCtorEq, argsOf_cons, argsOf_nil]) ?_
      refine ih (n / 10) (by omega) _ _ (by omega) fun s2 => ?_
      have hd : digL n = digL (n / 10) ++ [UInt8.ofNat (48 + n % 10)] := by
        conv => lhs; unfold digL
        rw [if_pos h10]
      have hlen := digL_len 19 (n / 10) (by omega)
      have hs := fun ox oy => b_sadd (En X) 9 ox oy (digL (n / 10)) [UInt8.ofNat (48 + n % 10)] (by simp; omega)
      rw [hd] at hK
      simp only [zEV, Nat.reduceShiftRight, Nat.reduceMod, Nat.reduceEqDiff, Nat.reduceAdd, ↓reduceIte, reduceCtorEq, hs, hres]
      exact hK _
    · have hc : (10 ≤ Int.ofNat n) = False := eq_false (by show ¬ (10 : Int) ≤ ((n : Nat) : Int); omega)
      simp only [zEV, Nat.reduceShiftRight, Nat.reduceMod, Nat.reduceEqDiff, Nat.reduceAdd, ↓reduceIte, reduceCtorEq, hrem, hadd, rConvert_eq, go_convert, isNew5, isNew9, hcv, nBuildSlice_eq, partsOf_nil, partsOf_cons, bS65_1, hcs, hc, hquo, hres]
      have hd : digL n = [UInt8.ofNat (48 + n % 10)] := by
        conv => lhs; unfold digL
        rw [if_neg h10]
      rw [hd] at hK
      exact hK _
theorem w64 {n : Int} (h1 : -9223372036854775808 ≤ n) (h2 : n ≤ 9223372036854775807) : wrapK .i64 n = n := by
  rw [wrapK_eq]
  exact wrap_in _ _ h1 h2
theorem lit_minus : Str.of { data := #[45] } = Str.ofL [45] := of_lit [45]
theorem cv248 (X : T Ext) (n : Nat) (look : Look) (h : n ≤ 18446744073709551615) : Ev.convert (En X) 2 48 (.int .i64 (Int.ofNat n)) look = some (.int .u64 (Int.ofNat n)) := by
  unfold Ev.convert
  rw [uint2]
  simp only []
  rw [uint48]
  show intC .u64 (wrapK .u64 (Int.ofNat n)) = _
  rw [intC_eq, wu h]
theorem u_neg (n : Int) : Ev.unOp .neg (.int .i64 n) = some (.int .i64 (wrapK .i64 (0 - n))) := by
  show intC .i64 (wrapK .i64 (Int.sub 0 n)) = _
  rw [intC_eq]; rfl
theorem itoa9 (X : T Ext) (hX : (En X).ext.get 9 = none) (hX16 : (En X).ext.get 16 = none) (n : Int) (h1 : -9223372036854775808 ≤ n) (h2 : n ≤ 9223372036854775807) (s : St) (K : V → St → Prop) (hK : ∀ s', K (.w (.c (.str (Str.ofL (itoaL n))))) s') :
    goC (En X) 9 [.c (.int .i64 n)] s K := by
  refine goC_body hX (kp9 X) (fn9 X) rfl (by kernel_rfl) ?_
  have hres : Tryd.f9.results.toList = [.tmp 2] := rfl
  by_cases h : n < 0
  · have hc : (n < 0) = True := eq_true h
    obtain ⟨m, hm⟩ : ∃ m : Nat, n = -((m : Nat) : Int) - 1 := ⟨(-n - 1).toNat, by omega⟩
    have hm2 : n.natAbs = m + 1 := by omega
    have e1 : wrapK .i64 (n + 1) = -((m : Nat) : Int) := by rw [show n + 1 = -((m : Nat) : Int) by omega]; exact w64 (by omega) (by omega)
    have e2 : wrapK .i64 (0 - -((m : Nat) : Int)) = Int.ofNat m := by rw [show (0 : Int) - -((m : Nat) : Int) = Int.ofNat m by show _ = ((m : Nat) : Int); omega]; exact wrap_nat (by omega)
    have e3 : wrapK .u64 (Int.ofNat m + 1) = Int.ofNat (m + 1) := by rw [show Int.ofNat m + 1 = Int.ofNat (m + 1) from rfl]; exact wu (by omega)
    have hcv := fun look => cv248 X m look (by omega)
    simp only [zEV, Nat.reduceShiftRight, Nat.reduceMod, Nat.reduceEqDiff, Nat.reduceAdd, ↓reduceIte, reduceCtorEq, hc, e1, u_neg, e2, rConvert_eq, go_convert, isNew48, hcv, e3]
    refine go_call _ _ _ _ _ _ (ws := [.c (.int .u64 (Int.ofNat (m + 1)))]) rfl (by simp only [zEA, Nat.reduceShiftRight, Nat.reduceMod, Nat.reduceEqDiff, Nat.reduceAdd, ↓reduceIte, reduceCtorEq, argsOf_cons, argsOf_nil]) ?_
    refine digits16 X hX16 (m + 1) _ _ (by omega) fun s2 => ?_
    have hlen := digL_len 19 (m + 1) (by omega)
    have hs := fun ox oy => b_sadd (En X) 9 ox oy [45] (digL (m + 1)) (by simp; omega)
    have hi : itoaL n = [45] ++ digL (m + 1) := by unfold itoaL; rw [if_pos h, hm2]; rfl
    rw [hi] at hK
    simp only [zEV, Nat.reduceShiftRight, Nat.reduceMod, Nat.reduceEqDiff, Nat.reduceAdd, ↓reduceIte, reduceCtorEq, lit_minus, hs, hres]
    exact hK _
  · have hc : (n < 0) = False := eq_false h
    obtain ⟨m, rfl⟩ : ∃ m : Nat, n = Int.ofNat m := ⟨n.toNat, by show n = ((n.toNat : Nat) : Int); omega⟩
    have hm : m ≤ 9223372036854775807 := by have : ((m : Nat) : Int) ≤ 9223372036854775807 := h2; omega
    have hcv := fun look => cv248 X m look (by omega)
    simp only [zEV, Nat.reduceShiftRight, Nat.reduceMod, Nat.reduceEqDiff, Nat.reduceAdd, ↓reduceIte, reduceCtorEq, hc, rConvert_eq, go_convert, isNew48, hcv]
    refine go_call _ _ _ _ _ _ (ws := [.c (.int .u64 (Int.ofNat m))]) rfl (by simp only [zEA, Nat.reduceShiftRight, Nat.reduceMod, Nat.reduceEqDiff, Nat.reduceAdd, ↓reduceIte, reduceCtorEq, argsOf_cons, argsOf_nil]) ?_
    refine digits16 X hX16 m _ _ (by omega) fun s2 => ?_
    have hi : itoaL (Int.ofNat m) = digL m := by unfold itoaL; rw [if_neg h]; rfl
    rw [hi] at hK
    simp only [zEV, Nat.reduceShiftRight, Nat.reduceMod, Nat.reduceEqDiff, Nat.reduceAdd, ↓reduceIte, reduceCtorEq, hres]
    exact hK _
def RIto (ps : List PW) (v : PV) : Prop := ∃ n : Int, ps = [.c (.int .i64 n)] ∧ -9223372036854775808 ≤ n ∧ n ≤ 9223372036854775807 ∧ v = .w (.c (.str (Str.ofL (itoaL n))))
noncomputable def e9i : Nat × Ext := (9, .fn (ofG RIto) [])
theorem c9i : Ok e9i := fn_of_go_g (exts := []) ok0 rfl [] rfl _ (by
  rintro ps pv ⟨n, rfl, h1, h2, rfl⟩
  exact itoa9 _ rfl rfl n h1 h2 _ _ fun s' => ⟨[], rfl⟩)
theorem callR_itoa {X : T Ext} (h9 : (En X).ext.get 9 = some (.fn (ofG RIto) [])) (n : Int) (h1 : -9223372036854775808 ≤ n) (h2 : n ≤ 9223372036854775807) (s : St) : CallR (En X) 9 [.c (.int .i64 n)] s (.w (.c (.str (Str.ofL (itoaL n))))) s :=
  callR_fn (ps := [.c (.int .i64 n)]) (pv := .w (.c (.str (Str.ofL (itoaL n))))) h9 (ofG_eq ⟨n, rfl, h1, h2, rfl⟩ (by
    rintro v' ⟨n', h, _, _, rfl⟩
    simp only [List.cons.injEq, PW.c.injEq, D.int.injEq, true_and, and_true] at h
    rw [h])) rfl
theorem callR_num {X : T Ext} (h15 : (En X).ext.get 15 = some (.fn (ofG RNum) gsE)) (l : List UInt8) (hl : l.length ≤ 140737488351232) (s : St) (hg : rowsAre s.h.get gsE = true) : CallR (En X) 15 [.c (.str (Str.ofL l))] s (.tup [.c (.int .i64 ((refNum l).getD 0)), .c (.bool (refNum l).isSome)]) s :=
  callR_fn_g (ps := [.c (.str (Str.ofL l))]) (pv := pvN (refNum l)) h15 hg (ofG_eq ⟨l, rfl, hl, rfl⟩ (by rintro v' ⟨l', h1, _, rfl⟩; rw [str_one h1])) rfl
end Ar
