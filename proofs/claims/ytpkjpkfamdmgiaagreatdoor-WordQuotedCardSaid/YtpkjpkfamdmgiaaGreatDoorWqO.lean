import Derived.Test.YtpkjpkfamdmgiaaGreatDoorWqN
import Derived.Test.YtpkjpkfamdmgiaaGreatDoorEwL
namespace Ws
open Go Go.Proofs Ev Wq
set_option linter.unusedVariables false
set_option linter.unusedSimpArgs false
set_option linter.unnecessarySimpa false
set_option maxRecDepth 100000
theorem blank23 (X : T Ext) (hX : (En X).ext.get 23 = none) (r : Nat) (s : St) (K : V → St → Prop) (hK : K (.w (.c (.bool (blN r)))) s) : goC (En X) 23 [.c (.int .i32 (Int.ofNat r))] s K := by
  refine goC_body hX (kp23 X) (fn23 X) rfl (by kernel_rfl) ?_
  have hres : Tryz.f23.results.toList = [.tmp 2] := rfl
  unfold blN at hK
  by_cases h1 : r = 32
  · have e1 : (Int.ofNat r = 32) = True := eq_true (by subst h1; rfl)
    rw [show (Nat.beq r 32 || Nat.beq r 9 || Nat.beq r 10) = true by subst h1; rfl] at hK
    simp only [zEV, Nat.reduceShiftRight, Nat.reduceMod, Nat.reduceEqDiff, Nat.reduceAdd, ↓reduceIte, reduceCtorEq, e1, hres]
    exact hK
  · have e1 : (Int.ofNat r = 32) = False := eq_false (by show ¬ ((r : Nat) : Int) = 32; omega)
    have b1 : Nat.beq r 32 = false := by cases h : Nat.beq r 32 with | false => rfl | true => exact absurd (Nat.eq_of_beq_eq_true h) h1
    by_cases h2 : r = 9
    · have e2 : (Int.ofNat r = 9) = True := eq_true (by subst h2; rfl)
      rw [show (Nat.beq r 32 || Nat.beq r 9 || Nat.beq r 10) = true by subst h2; rfl] at hK
      simp only [zEV, Nat.reduceShiftRight, Nat.reduceMod, Nat.reduceEqDiff, Nat.reduceAdd, ↓reduceIte, reduceCtorEq, e1, e2, hres]
      exact hK
    · have e2 : (Int.ofNat r = 9) = False := eq_false (by show ¬ ((r : Nat) : Int) = 9; omega)
      have b2 : Nat.beq r 9 = false := by cases h : Nat.beq r 9 with | false => rfl | true => exact absurd (Nat.eq_of_beq_eq_true h) h2
      by_cases h3 : r = 10
      · have e3 : (Int.ofNat r = 10) = True := eq_true (by subst h3; rfl)
        rw [show (Nat.beq r 32 || Nat.beq r 9 || Nat.beq r 10) = true by subst h3; rfl] at hK
        simp only [zEV, Nat.reduceShiftRight, Nat.reduceMod, Nat.reduceEqDiff, Nat.reduceAdd, ↓reduceIte, reduceCtorEq, e1, e2, e3, hres]
        exact hK
      · have e3 : (Int.ofNat r = 10) = False := eq_false (by show ¬ ((r : Nat) : Int) = 10; omega)
        have b3 : Nat.beq r 10 = false := by cases h : Nat.beq r 10 with | false => rfl | true => exact absurd (Nat.eq_of_beq_eq_true h) h3
        rw [b1, b2, b3] at hK
        simp only [zEV, Nat.reduceShiftRight, Nat.reduceMod, Nat.reduceEqDiff, Nat.reduceAdd, ↓reduceIte, reduceCtorEq, e1, e2, e3, hres]
        exact hK
theorem rSlice_lh (E : Env) (look : Look) (a : A) (t : Nat) (x lo hi : Operand) : rSlice E look a t x (some lo) (some hi) none = match opC a x with
  | none => none
  | some c => match opC a lo with
    | none => none
    | some l => match opC a hi with
      | none => none
      | some h => retC (slice E t c (some l) (some h) none look) := by
  unfold rSlice
  simp only [optC]
  cases opC a x with
  | none => rfl
  | some c =>
    simp only []
    cases opC a lo with
    | none => rfl
    | some l =>
      simp only []
      cases opC a hi <;> rfl
theorem slice_smid (X : T Ext) (look : Look) (l : List UInt8) {i j : Nat} (hij : i ≤ j) (hj : j ≤ l.length) : slice (En X) 9 (.str (Str.ofL l)) (some (.int .i64 (Int.ofNat i))) (some (.int .i64 (Int.ofNat j))) none look = some (.str (Str.ofL ((l.drop i).take (j - i)))) := by
  have h : slice (En X) 9 (.str (Str.ofL l)) (some (.int .i64 (Int.ofNat i))) (some (.int .i64 (Int.ofNat j))) none look = some (.str ((Str.ofL l).sub i j)) := by
    unfold slice
    rw [ustr9]
    show cutStr (Str.ofL l) none (cut3 (some (.int .i64 (Int.ofNat i))) (some (.int .i64 (Int.ofNat j))) none l.length l.length) = _
    have : cut3 (some (.int .i64 (Int.ofNat i))) (some (.int .i64 (Int.ofNat j))) none l.length l.length = some (i, j, l.length) := by
      unfold cut3 bound
      simp only [inB_nat (show j < l.length + 1 by omega), inB_nat (show i < j + 1 by omega)]
    rw [this]; rfl
  rw [h, Str.sub_ofL _ _ _ hij hj]
theorem new_one (s : St) (x : C) : newCells (s.new (.row (mkRow [x]))).h.get 1 (.sl s.nx 0 1 (some 1) 1) = some (1, [x]) := by
  have hrow : (s.new (.row (mkRow [x]))).h.get s.nx = some (.row ⟨T.ofL [x], 1, true, 0, []⟩) := by rw [row_newC, mkRow_eq]; rfl
  unfold newCells
  simp only []
  rw [readL_row hrow, show Nat.mul 1 1 = 1 from rfl, readR_eq _ _ _ _ _ _ _ (by omega)]
  show (match (T.ofL [x]).getL [x].length 0 with | some l => some (1, l) | none => none) = _
  rw [T.getL_ofL]
def wC (l : List (List UInt8)) : List C := l.map fun w => C.str (Str.ofL w)
def frm (i : Nat) (cur : List UInt8) : Int := match cur with
  | [] => -1
  | _ => Int.ofNat (i - cur.length)
theorem words10 (X : T Ext) (hX : (En X).ext.get 10 = none) (h23 : (En X).ext.get 23 = none) (v : List UInt8) (hv : v.length ≤ 1000) (s : St) (K : V → St → Prop)
    (hK : ∀ c s', SlW s' s.nx c (wC (words v)) → s.nx ≤ s'.nx → (∀ x, x < s.nx → s'.h.get x = s.h.get x) → K (vc c) s') : goC (En X) 10 [.c (.str (Str.ofL v))] s K := by
  refine goC_body hX (kp10 X) (fn10 X) rfl (by kernel_rfl) ?_
  have hres : Tryz.f10.results.toList = [.tmp 2] := rfl
  have hlen : ∀ look, len (En X) 9 look (.str (Str.ofL v)) = some v.length := fun look => len_ofL (ustr9 X) look v
  simp only [zEV, Nat.reduceShiftRight, Nat.reduceMod, Nat.reduceEqDiff, Nat.reduceAdd, ↓reduceIte, reduceCtorEq]
  refine go_loop (goL_inv (fun n' a' s' => ∃ i ls cur c, n' = v.length + 1 - i ∧ i ≤ v.length + 1 ∧ ls.length ≤ i ∧ cur.length ≤ i ∧ (i ≤ v.length → (v.drop (i - cur.length)).take cur.length = cur ∧ ls ++ grp blB cur (v.drop i) = words v) ∧ (v.length < i → ls = words v) ∧
      Has a' 0 (vc (.str (Str.ofL v))) ∧ Has a' 3 (vc c) ∧ Has a' 4 (vc (.int .i64 (frm i cur))) ∧ Has a' 5 (vc (.int .i64 (Int.ofNat i))) ∧ SlW s' s.nx c (wC ls) ∧ s.nx ≤ s'.nx ∧ (∀ x, x < s.nx → s'.h.get x = s.h.get x)) (n := v.length + 1)
    ⟨0, [], [], .nils, rfl, by omega, Nat.le_refl _, Nat.le_refl _, fun _ => ⟨rfl, rfl⟩, fun h => by omega, ⟨rfl, rfl⟩, ⟨rfl, rfl⟩, ⟨rfl, rfl⟩, ⟨rfl, rfl⟩, SlW.nil _ _, Nat.le_refl _, fun _ _ => rfl⟩ ?_)
  rintro n' a' s' ⟨i, ls, cur, c, rfl, hi, hls, hcur, h1, h2, ⟨g0, k0⟩, ⟨g3, k3⟩, ⟨g4, k4⟩, ⟨g5, k5⟩, hsl, hnx, hkp⟩
  by_cases hle : i ≤ v.length
  · obtain ⟨hc1, hc2⟩ := h1 hle
    have hle' : (Int.ofNat i ≤ Int.ofNat v.length) = True := eq_true (Int.ofNat_le.2 hle)
    have hsu := nat_succ (show i < 9223372036854775807 by omega)
    -- a word's end
    have ends : ∀ (a2 : A), True := fun _ => trivial
    by_cases hlt : i < v.length
    · have hlt' : (Int.ofNat i < Int.ofNat v.length) = True := eq_true (Int.ofNat_lt.2 hlt)
      obtain ⟨x, hx⟩ : ∃ x, v[i]? = some x := ⟨_, List.getElem?_eq_getElem hlt⟩
      have hix := index_str X v hx
      have hdr : v.drop i = x :: v.drop (i + 1) := by
        rw [List.drop_eq_getElem_cons hlt]
        rw [List.getElem?_eq_getElem hlt] at hx
        cases hx; rfl
      rw [hdr] at hc2
      simp only [zEV, Nat.reduceShiftRight, Nat.reduceMod, Nat.reduceEqDiff, Nat.reduceAdd, ↓reduceIte, reduceCtorEq, g0, k0, g3, k3, g4, k4, g5, k5, hlen, hle', hlt', rIndex_eq, hix, rConvert_eq, go_convert, isNew21, cv5]
      refine go_call _ _ _ _ _ _ (ws := [.c (.int .i32 (Int.ofNat x.toNat))]) rfl (by simp only [zEA, Nat.reduceShiftRight, Nat.reduceMod, Nat.reduceEqDiff, Nat.reduceAdd, ↓reduceIte, reduceCtorEq, argsOf_cons, argsOf_nil]) ?_
      refine blank23 X h23 x.toNat s' _ ?_
      cases hb : blN x.toNat with
      | false =>
        have hbb : blB x = false := hb
        have hg : ls ++ grp blB (cur ++ [x]) (v.drop (i + 1)) = words v := by
          rw [← hc2]
          show _ = ls ++ (if blB x then (if cur.isEmpty then grp blB [] (v.drop (i + 1)) else cur :: grp blB [] (v.drop (i + 1))) else grp blB (cur ++ [x]) (v.drop (i + 1)))
          rw [if_neg (by rw [hbb]; simp)]
        have htk : (v.drop (i + 1 - (cur ++ [x]).length)).take (cur ++ [x]).length = cur ++ [x] := by
          rw [List.length_append, show i + 1 - (cur.length + [x].length) = i - cur.length by simp, show cur.length + [x].length = cur.length + 1 from rfl, List.take_add_one, hc1, List.getElem?_drop, show i - cur.length + cur.length = i by omega, hx]
          rfl
        cases hcu : cur with
        | nil =>
          have e0 : ((-1 : Int) < 0) = True := eq_true (by decide)
          have hf : frm i [] = -1 := rfl
          rw [hcu] at g4 k4 hg htk
          simp only [zEV, Nat.reduceShiftRight, Nat.reduceMod, Nat.reduceEqDiff, Nat.reduceAdd, ↓reduceIte, reduceCtorEq, g0, k0, g3, k3, g4, k4, g5, k5, hb, hf, e0, hsu]
          refine ⟨_, ?_, i + 1, ls, [x], c, rfl, by omega, by omega, by simp, fun _ => ⟨htk, hg⟩, fun h => by omega, ⟨?_, ?_⟩, ⟨?_, ?_⟩, ⟨?_, ?_⟩, ⟨?_, ?_⟩, hsl, hnx, hkp⟩
          all_goals first | (simp only [zEA, Nat.reduceShiftRight, Nat.reduceMod, Nat.reduceEqDiff, Nat.reduceAdd, ↓reduceIte, reduceCtorEq, g0, k0, g3, k3, g4, k4, g5, k5]; done) | (simp only [zEV, Nat.reduceShiftRight, Nat.reduceMod, Nat.reduceEqDiff, Nat.reduceAdd, ↓reduceIte, reduceCtorEq, g0, k0, g3, k3, g4, k4, g5, k5]; rfl) | omega
        | cons a r =>
          have hf : frm i (a :: r) = Int.ofNat (i - (a :: r).length) := rfl
          have e0 : (Int.ofNat (i - (a :: r).length) < 0) = False := eq_false (fun h => by have : ¬ ((i - (a :: r).length : Nat) : Int) < 0 := by omega
                                                                                           exact this h)
          have hf2 : frm (i + 1) ((a :: r) ++ [x]) = Int.ofNat (i - (a :: r).length) := by
            show Int.ofNat (i + 1 - ((a :: r) ++ [x]).length) = _
            rw [List.length_append]
            congr 1
            simp
          rw [hcu] at g4 k4 hg htk hcur
          rw [hf] at g4 k4
          simp only [zEV, Nat.reduceShiftRight, Nat.reduceMod, Nat.reduceEqDiff, Nat.reduceAdd, ↓reduceIte, reduceCtorEq, g0, k0, g3, k3, g4, k4, g5, k5, hb, hf, e0, hsu]
          refine ⟨_, ?_, i + 1, ls, (a :: r) ++ [x], c, rfl, by omega, by omega, by simp at hcur ⊢; omega, fun _ => ⟨htk, hg⟩, fun h => by omega, ⟨?_, ?_⟩, ⟨?_, ?_⟩, ⟨?_, ?_⟩, ⟨?_, ?_⟩, hsl, hnx, hkp⟩
          all_goals first | (simp only [zEV, Nat.reduceShiftRight, Nat.reduceMod, Nat.reduceEqDiff, Nat.reduceAdd, ↓reduceIte, reduceCtorEq, g0, k0, g3, k3, g4, k4, g5, k5, hf2]; done) | (simp only [zEV, Nat.reduceShiftRight, Nat.reduceMod, Nat.reduceEqDiff, Nat.reduceAdd, ↓reduceIte, reduceCtorEq, g0, k0, g3, k3, g4, k4, g5, k5, hf2]; rfl) | omega
      | true =>
        have hbb : blB x = true := hb
        have hg : (if cur.isEmpty then ls else ls ++ [cur]) ++ grp blB [] (v.drop (i + 1)) = words v := by
          rw [← hc2]
          show _ = ls ++ (if blB x then (if cur.isEmpty then grp blB [] (v.drop (i + 1)) else cur :: grp blB [] (v.drop (i + 1))) else grp blB (cur ++ [x]) (v.drop (i + 1)))
          rw [if_pos hbb]
          cases cur <;> simp
        cases hcu : cur with
        | nil =>
          have e1 : (0 ≤ (-1 : Int)) = False := eq_false (by decide)
          have hf : frm i [] = -1 := rfl
          rw [hcu] at g4 k4 hg
          rw [hf] at g4 k4
          simp only [zEV, Nat.reduceShiftRight, Nat.reduceMod, Nat.reduceEqDiff, Nat.reduceAdd, ↓reduceIte, reduceCtorEq, g0, k0, g3, k3, g4, k4, g5, k5, hb, hf, e1, hsu]
          refine ⟨_, ?_, i + 1, ls, [], c, rfl, by omega, by omega, by simp, fun _ => ⟨by simp, hg⟩, fun h => by omega, ⟨?_, ?_⟩, ⟨?_, ?_⟩, ⟨?_, ?_⟩, ⟨?_, ?_⟩, hsl, hnx, hkp⟩
          all_goals first | (simp only [zEA, Nat.reduceShiftRight, Nat.reduceMod, Nat.reduceEqDiff, Nat.reduceAdd, ↓reduceIte, reduceCtorEq, g0, k0, g3, k3, g4, k4, g5, k5]; done) | (simp only [zEV, Nat.reduceShiftRight, Nat.reduceMod, Nat.reduceEqDiff, Nat.reduceAdd, ↓reduceIte, reduceCtorEq, g0, k0, g3, k3, g4, k4, g5, k5]; rfl) | omega
        | cons a r =>
          have hf : frm i (a :: r) = Int.ofNat (i - (a :: r).length) := rfl
          have e1 : (0 ≤ Int.ofNat (i - (a :: r).length)) = True := eq_true (Int.natCast_nonneg _)
          rw [hcu] at g4 k4 hg hcur hc1
          rw [hf] at g4 k4
          have hsl2 := fun look => slice_smid X look v (i := i - (a :: r).length) (j := i) (by omega) hle
          rw [show i - (i - (a :: r).length) = (a :: r).length by omega, hc1] at hsl2
          have n3 : (s'.new (.row (mkRow [.str (Str.ofL (a :: r))]))).nx = s'.nx + 1 := St.new_nx _ _
          have sl3 : SlW (s'.new (.row (mkRow [.str (Str.ofL (a :: r))]))) s.nx c (wC ls) := hsl.keep (by omega) fun x hx => new_old s' _ hx
          have o3 : ∀ x, x < s'.nx → (s'.new (.row (mkRow [.str (Str.ofL (a :: r))]))).h.get x = s'.h.get x := fun x hx => new_old s' _ hx
          have nc := new_one s' (.str (Str.ofL (a :: r)))
          obtain ⟨c4, s4, happ, sl4, n4, o4⟩ := app_W (el25 X) ti9.1 (show s.nx ≤ (s'.new (.row (mkRow [.str (Str.ofL (a :: r))]))).nx by omega) sl3 nc (by rw [ti9.2]; have : maxBytes = 140737488355328 := rfl; unfold wC; rw [List.length_map]; omega)
          rw [show wC ls ++ [C.str (Str.ofL (a :: r))] = wC (ls ++ [a :: r]) by unfold wC; simp] at sl4
          simp only [zEV, Nat.reduceShiftRight, Nat.reduceMod, Nat.reduceEqDiff, Nat.reduceAdd, ↓reduceIte, reduceCtorEq, g0, k0, g3, k3, g4, k4, g5, k5, hb, hf, e1, rSlice_lh, hsl2, nBuildSlice_eq, partsOf_cons, partsOf_nil, bS25_1, us25, happ, hsu]
          refine ⟨_, ?_, i + 1, ls ++ [a :: r], [], c4, rfl, by omega, ?_, by simp, fun _ => ⟨by simp, hg⟩, fun h => by omega, ⟨?_, ?_⟩, ⟨?_, ?_⟩, ⟨?_, ?_⟩, ⟨?_, ?_⟩, sl4, by omega, fun x hx => (o4 x hx).trans ((o3 x (by omega)).trans (hkp x hx))⟩
          all_goals first | (simp only [zEA, Nat.reduceShiftRight, Nat.reduceMod, Nat.reduceEqDiff, Nat.reduceAdd, ↓reduceIte, reduceCtorEq, g0, k0, g3, k3, g4, k4, g5, k5]; done) | (simp only [zEV, Nat.reduceShiftRight, Nat.reduceMod, Nat.reduceEqDiff, Nat.reduceAdd, ↓reduceIte, reduceCtorEq, g0, k0, g3, k3, g4, k4, g5, k5]; rfl) | (rw [List.length_append]; show ls.length + 1 ≤ _; omega) | omega
    · have hlt' : (Int.ofNat i < Int.ofNat v.length) = False := eq_false (fun h => hlt (Int.ofNat_lt.1 h))
      have hil : i = v.length := by omega
      have hdr : v.drop i = [] := List.drop_eq_nil_of_le (by omega)
      rw [hdr] at hc2
      have hg : (if cur.isEmpty then ls else ls ++ [cur]) = words v := by
        rw [← hc2]
        show _ = ls ++ (if cur.isEmpty then [] else [cur])
        cases cur <;> simp
      simp only [zEV, Nat.reduceShiftRight, Nat.reduceMod, Nat.reduceEqDiff, Nat.reduceAdd, ↓reduceIte, reduceCtorEq, g0, k0, g3, k3, g4, k4, g5, k5, hlen, hle', hlt']
      cases hcu : cur with
      | nil =>
        have e1 : (0 ≤ (-1 : Int)) = False := eq_false (by decide)
        have hf : frm i [] = -1 := rfl
        rw [hcu] at g4 k4 hg
        rw [hf] at g4 k4
        simp only [zEV, Nat.reduceShiftRight, Nat.reduceMod, Nat.reduceEqDiff, Nat.reduceAdd, ↓reduceIte, reduceCtorEq, g0, k0, g3, k3, g4, k4, g5, k5, hlen, hf, e1, hsu]
        refine ⟨_, ?_, i + 1, ls, [], c, rfl, by omega, by omega, by simp, fun h => by omega, fun h => hg, ⟨?_, ?_⟩, ⟨?_, ?_⟩, ⟨?_, ?_⟩, ⟨?_, ?_⟩, hsl, hnx, hkp⟩
        all_goals first | (simp only [zEA, Nat.reduceShiftRight, Nat.reduceMod, Nat.reduceEqDiff, Nat.reduceAdd, ↓reduceIte, reduceCtorEq, g0, k0, g3, k3, g4, k4, g5, k5]; done) | (simp only [zEV, Nat.reduceShiftRight, Nat.reduceMod, Nat.reduceEqDiff, Nat.reduceAdd, ↓reduceIte, reduceCtorEq, g0, k0, g3, k3, g4, k4, g5, k5]; rfl) | omega
      | cons a r =>
        have hf : frm i (a :: r) = Int.ofNat (i - (a :: r).length) := rfl
        have e1 : (0 ≤ Int.ofNat (i - (a :: r).length)) = True := eq_true (Int.natCast_nonneg _)
        rw [hcu] at g4 k4 hg hcur hc1
        rw [hf] at g4 k4
        have hsl2 := fun look => slice_smid X look v (i := i - (a :: r).length) (j := i) (by omega) hle
        rw [show i - (i - (a :: r).length) = (a :: r).length by omega, hc1] at hsl2
        have n3 : (s'.new (.row (mkRow [.str (Str.ofL (a :: r))]))).nx = s'.nx + 1 := St.new_nx _ _
        have sl3 : SlW (s'.new (.row (mkRow [.str (Str.ofL (a :: r))]))) s.nx c (wC ls) := hsl.keep (by omega) fun x hx => new_old s' _ hx
        have o3 : ∀ x, x < s'.nx → (s'.new (.row (mkRow [.str (Str.ofL (a :: r))]))).h.get x = s'.h.get x := fun x hx => new_old s' _ hx
        have nc := new_one s' (.str (Str.ofL (a :: r)))
        obtain ⟨c4, s4, happ, sl4, n4, o4⟩ := app_W (el25 X) ti9.1 (show s.nx ≤ (s'.new (.row (mkRow [.str (Str.ofL (a :: r))]))).nx by omega) sl3 nc (by rw [ti9.2]; have : maxBytes = 140737488355328 := rfl; unfold wC; rw [List.length_map]; omega)
        rw [show wC ls ++ [C.str (Str.ofL (a :: r))] = wC (ls ++ [a :: r]) by unfold wC; simp] at sl4
        simp only [zEV, Nat.reduceShiftRight, Nat.reduceMod, Nat.reduceEqDiff, Nat.reduceAdd, ↓reduceIte, reduceCtorEq, g0, k0, g3, k3, g4, k4, g5, k5, hlen, hf, e1, rSlice_lh, hsl2, nBuildSlice_eq, partsOf_cons, partsOf_nil, bS25_1, us25, happ, hsu]
        refine ⟨_, ?_, i + 1, ls ++ [a :: r], [], c4, rfl, by omega, ?_, by simp, fun h => by omega, fun h => hg, ⟨?_, ?_⟩, ⟨?_, ?_⟩, ⟨?_, ?_⟩, ⟨?_, ?_⟩, sl4, by omega, fun x hx => (o4 x hx).trans ((o3 x (by omega)).trans (hkp x hx))⟩
        all_goals first | (simp only [zEA, Nat.reduceShiftRight, Nat.reduceMod, Nat.reduceEqDiff, Nat.reduceAdd, ↓reduceIte, reduceCtorEq, g0, k0, g3, k3, g4, k4, g5, k5]; done) | (simp only [zEV, Nat.reduceShiftRight, Nat.reduceMod, Nat.reduceEqDiff, Nat.reduceAdd, ↓reduceIte, reduceCtorEq, g0, k0, g3, k3, g4, k4, g5, k5]; rfl) | (rw [List.length_append]; show ls.length + 1 ≤ _; omega) | omega
  · have hle' : (Int.ofNat i ≤ Int.ofNat v.length) = False := eq_false (fun h => hle (Int.ofNat_le.1 h))
    rw [h2 (by omega)] at hsl
    simp only [zEV, Nat.reduceShiftRight, Nat.reduceMod, Nat.reduceEqDiff, Nat.reduceAdd, ↓reduceIte, reduceCtorEq, g0, k0, g3, k3, g4, k4, g5, k5, hlen, hle', hres]
    exact hK _ _ hsl hnx hkp
end Ws
