import Derived.Test.YtaapmoclinjefaaDoorArV9
import Derived.Test.YtaapmoclinjefaaDoorArX
namespace Ar
open Ev Nu
set_option linter.unusedSimpArgs false
def mx : Int := 9223372036854775807
def ovAdd (a b : Int) : Bool := (decide (0 < b) && decide (mx - b < a)) || (decide (b < 0) && decide (a < minI - b))
def ovSub (a b : Int) : Bool := (decide (b < 0) && decide (mx + b < a)) || (decide (0 < b) && decide (a < minI + b))
def ovMul (a b : Int) : Bool := !decide (a = 0) && !decide (b = 0) && (!decide (wr ((wr (a * b)).tdiv b) = a) || (decide (a = -1) && decide (b = minI)) || (decide (b = -1) && decide (a = minI)))
def yesF (c : Bool) : Int := if c then 1 else 0
def divR (a b : Int) (left : Bool) : Int × Bool :=
  if b = 0 then (0, true) else if b = -1 then (if left then (0, false) else (wr (0 - a), ovSub 0 a)) else if left then (a.tmod b, false) else (wr (a.tdiv b), false)
def opR (op : List UInt8) (a b : Int) : Int × Bool :=
  if op = [43] then (wr (a + b), ovAdd a b)
  else if op = [45] then (wr (a - b), ovSub a b)
  else if op = [42] then (wr (a * b), ovMul a b)
  else if op = [47] then divR a b false
  else if op = [37] then divR a b true
  else if op = [60] then (yesF (decide (a < b)), false)
  else if op = [60, 61] then (yesF (decide (a ≤ b)), false)
  else if op = [62] then (yesF (decide (b < a)), false)
  else if op = [62, 61] then (yesF (decide (b ≤ a)), false)
  else if op = [61, 61] then (yesF (decide (a = b)), false)
  else (yesF (!decide (a = b)), false)
def inR (n : Int) : Prop := -9223372036854775808 ≤ n ∧ n ≤ 9223372036854775807
theorem wr_eq (n : Int) : wr n = if 9223372036854775808 ≤ n % 18446744073709551616 then n % 18446744073709551616 - 18446744073709551616 else n % 18446744073709551616 := by
  unfold wr
  rw [wrapK_eq]
  simp [Go.IntKind.wrap, Go.IntKind.bits, Go.IntKind.signed]
theorem wr_inR (n : Int) : inR (wr n) := by
  rw [wr_eq]
  unfold inR
  split <;> omega
theorem wr_in {n : Int} (h : inR n) : wr n = n := by
  obtain ⟨h1, h2⟩ := h
  rw [wr_eq]
  split <;> omega
theorem wr_hi {n : Int} (h1 : 9223372036854775807 < n) (h2 : n ≤ 27670116110564327423) : wr n = n - 18446744073709551616 := by
  rw [wr_eq]
  split <;> omega
theorem wr_lo {n : Int} (h1 : n < -9223372036854775808) (h2 : -27670116110564327424 ≤ n) : wr n = n + 18446744073709551616 := by
  rw [wr_eq]
  split <;> omega
theorem dc_t {p : Prop} [Decidable p] (h : p) : decide p = true := decide_eq_true h
theorem dc_f {p : Prop} [Decidable p] (h : ¬ p) : decide p = false := decide_eq_false h
theorem sum_cases (n : Int) (h1 : -18446744073709551616 ≤ n) (h2 : n ≤ 18446744073709551615) : (inR n ∧ wr n = n) ∨ (9223372036854775807 < n ∧ wr n = n - 18446744073709551616) ∨ (n < -9223372036854775808 ∧ wr n = n + 18446744073709551616) := by
  by_cases h : inR n
  · exact .inl ⟨h, wr_in h⟩
  · by_cases h3 : 9223372036854775807 < n
    · exact .inr (.inl ⟨h3, wr_hi h3 (by omega)⟩)
    · have : n < -9223372036854775808 := by
        unfold inR at h
        omega
      exact .inr (.inr ⟨this, wr_lo this (by omega)⟩)
theorem add_same {a b : Int} (ha : inR a) (hb : inR b) : (twoF [43] a b).2 = !ovAdd a b := by
  obtain ⟨a1, a2⟩ := ha
  obtain ⟨b1, b2⟩ := hb
  show ((decide (0 ≤ a) != decide (0 ≤ b)) || (decide (0 ≤ a) == decide (0 ≤ wr (a + b)))) = _
  unfold ovAdd mx minI
  have hw := sum_cases (a + b) (by omega) (by omega)
  unfold inR at hw
  rw [Bool.eq_iff_iff]
  simp only [Bool.or_eq_true, Bool.and_eq_true, bne_iff_ne, beq_iff_eq, ne_eq, decide_eq_true_eq, decide_eq_decide, Bool.not_eq_true', Bool.or_eq_false_iff, Bool.and_eq_false_iff, decide_eq_false_iff_not]
  generalize wr (a + b) = w at hw ⊢
  omega
theorem sub_same {a b : Int} (ha : inR a) (hb : inR b) : (twoF [45] a b).2 = !ovSub a b := by
  obtain ⟨a1, a2⟩ := ha
  obtain ⟨b1, b2⟩ := hb
  show ((decide (0 ≤ a) == decide (0 ≤ b)) || (decide (0 ≤ a) == decide (0 ≤ wr (a - b)))) = _
  unfold ovSub mx minI
  have hw := sum_cases (a - b) (by omega) (by omega)
  unfold inR at hw
  rw [Bool.eq_iff_iff]
  simp only [Bool.or_eq_true, Bool.and_eq_true, bne_iff_ne, beq_iff_eq, ne_eq, decide_eq_true_eq, decide_eq_decide, Bool.not_eq_true', Bool.or_eq_false_iff, Bool.and_eq_false_iff, decide_eq_false_iff_not]
  generalize wr (a - b) = w at hw ⊢
  omega
theorem neg_same {a : Int} (ha : inR a) : (!decide (a = minI)) = !ovSub 0 a := by
  obtain ⟨a1, a2⟩ := ha
  unfold ovSub mx minI
  rw [Bool.eq_iff_iff]
  simp only [Bool.or_eq_true, Bool.and_eq_true, decide_eq_true_eq, Bool.not_eq_true', Bool.or_eq_false_iff, Bool.and_eq_false_iff, decide_eq_false_iff_not]
  omega
theorem wr0 : wr 0 = 0 := by rw [wr_eq]; decide
theorem mul_same {a b : Int} : (twoF [42] a b).2 = !ovMul a b ∧ ((twoF [42] a b).2 = true → (twoF [42] a b).1 = wr (a * b)) := by
  show (timesF a b).2 = _ ∧ ((timesF a b).2 = true → (timesF a b).1 = _)
  unfold timesF ovMul
  by_cases h0 : a = 0 ∨ b = 0
  · rw [if_pos h0]
    rcases h0 with rfl | rfl <;> simp [wr0]
  · rw [if_neg h0]
    have h1 : a ≠ 0 := fun h => h0 (.inl h)
    have h2 : b ≠ 0 := fun h => h0 (.inr h)
    by_cases h3 : (a = minI ∧ b = -1) ∨ (b = minI ∧ a = -1)
    · rw [if_pos h3]
      rcases h3 with ⟨rfl, rfl⟩ | ⟨rfl, rfl⟩ <;> simp [minI]
    · rw [if_neg h3]
      have h4 : (decide (a = -1) && decide (b = minI)) = false := by
        rw [Bool.and_eq_false_iff, decide_eq_false_iff_not, decide_eq_false_iff_not]
        by_cases h : a = -1
        · exact .inr fun hb => h3 (.inr ⟨hb, h⟩)
        · exact .inl h
      have h5 : (decide (b = -1) && decide (a = minI)) = false := by
        rw [Bool.and_eq_false_iff, decide_eq_false_iff_not, decide_eq_false_iff_not]
        by_cases h : b = -1
        · exact .inr fun hb => h3 (.inl ⟨hb, h⟩)
        · exact .inl h
      refine ⟨?_, fun _ => rfl⟩
      rw [h4, h5, decide_eq_false h1, decide_eq_false h2]
      simp
theorem two_same {op : List UInt8} {a b : Int} (ha : inR a) (hb : inR b) : (twoF op a b).2 = !(opR op a b).2 ∧ ((twoF op a b).2 = true → (twoF op a b).1 = (opR op a b).1) := by
  by_cases h1 : op = [43]
  · subst h1
    exact ⟨add_same ha hb, fun _ => rfl⟩
  by_cases h2 : op = [45]
  · subst h2
    exact ⟨sub_same ha hb, fun _ => rfl⟩
  by_cases h3 : op = [42]
  · subst h3
    exact mul_same
  by_cases h4 : op = [47]
  · subst h4
    show (if b = 0 ∨ (a = minI ∧ b = -1) then ((0 : Int), false) else (wr (a.tdiv b), true)).2 = !(divR a b false).2 ∧ ((if b = 0 ∨ (a = minI ∧ b = -1) then ((0 : Int), false) else (wr (a.tdiv b), true)).2 = true → (if b = 0 ∨ (a = minI ∧ b = -1) then ((0 : Int), false) else (wr (a.tdiv b), true)).1 = (divR a b false).1)
    unfold divR
    by_cases hb0 : b = 0
    · rw [if_pos (.inl hb0), if_pos hb0]; exact ⟨rfl, fun h => by cases h⟩
    · rw [if_neg hb0]
      by_cases hb1 : b = -1
      · rw [if_pos hb1]
        by_cases hm : a = minI
        · rw [if_pos (.inr ⟨hm, hb1⟩)]
          subst hm
          exact ⟨rfl, fun h => by cases h⟩
        · rw [if_neg (by rintro (h | h); exact hb0 h; exact hm h.1)]
          have := neg_same ha
          rw [decide_eq_false hm] at this
          refine ⟨this, fun _ => ?_⟩
          subst hb1
          show wr (a.tdiv (-1)) = wr (0 - a)
          rw [Int.tdiv_neg, Int.tdiv_one, Int.zero_sub]
      · rw [if_neg (by rintro (h | h); exact hb0 h; exact hb1 h.2), if_neg hb1]
        exact ⟨rfl, fun _ => rfl⟩
  by_cases h5 : op = [37]
  · subst h5
    show (if b = 0 then ((0 : Int), false) else (a.tmod b, true)).2 = !(divR a b true).2 ∧ ((if b = 0 then ((0 : Int), false) else (a.tmod b, true)).2 = true → (if b = 0 then ((0 : Int), false) else (a.tmod b, true)).1 = (divR a b true).1)
    unfold divR
    by_cases hb0 : b = 0
    · rw [if_pos hb0, if_pos hb0]; exact ⟨rfl, fun h => by cases h⟩
    · rw [if_neg hb0, if_neg hb0]
      by_cases hb1 : b = -1
      · rw [if_pos hb1]
        subst hb1
        refine ⟨rfl, fun _ => ?_⟩
        show a.tmod (-1) = 0
        rw [Int.tmod_neg, Int.tmod_one]
      · rw [if_neg hb1]
        exact ⟨rfl, fun _ => rfl⟩
  unfold twoF opR
  rw [if_neg h1, if_neg h2, if_neg h3, if_neg h4, if_neg h5, if_neg h1, if_neg h2, if_neg h3, if_neg h4, if_neg h5]
  repeat' split
  all_goals exact ⟨rfl, fun _ => rfl⟩

theorem refB_le {B : Nat} {l : List UInt8} {u : Nat} (h : refB B 0 l = some u) : u ≤ B := ((refB_iff B l 0 u (Nat.zero_le _)).1 h).2
theorem refNum_in {l : List UInt8} {n : Int} (h : refNum l = some n) : inR n := by
  cases l with
  | nil => cases h
  | cons c r =>
    rw [refNum_cons] at h
    unfold inR
    split at h
    · split at h
      · cases hb : refB 9223372036854775808 0 r with
        | none => rw [hb] at h; cases h
        | some u => rw [hb] at h; simp only [Option.map_some, Option.some.injEq] at h; subst h; have := refB_le hb; omega
      · cases h
    · split at h
      · cases hb : refB 9223372036854775807 0 (c :: r) with
        | none => rw [hb] at h; cases h
        | some u => rw [hb] at h; simp only [Option.map_some, Option.some.injEq] at h; subst h; have := refB_le hb; omega
      · cases h
theorem in0 : inR 0 := by unfold inR; omega
theorem in1 : inR 1 := by unfold inR; omega
theorem getD_in {l : List UInt8} : inR ((refNum l).getD 0) := by
  cases h : refNum l with
  | none => exact in0
  | some n => exact refNum_in h
theorem valV_in (name : List UInt8) : ∀ vs, inR (valV name vs).1
  | [] => in0
  | x :: vs => by
    unfold valV
    split
    · split
      · exact in0
      · exact getD_in
    · exact valV_in name vs
theorem bit_in (c : Bool) : inR (bitF c).1 := by cases c; exact in0; exact in1
theorem tmod_in {a b : Int} (ha : inR a) : inR (a.tmod b) := by
  obtain ⟨a1, a2⟩ := ha
  have h := Int.natAbs_tmod a b
  have h2 : a.natAbs % b.natAbs ≤ a.natAbs := Nat.mod_le _ _
  unfold inR
  by_cases h0 : 0 ≤ a
  · have := Int.tmod_nonneg b h0
    omega
  · have h3 : (-a).tmod b = -(a.tmod b) := Int.neg_tmod _ _
    have := Int.tmod_nonneg b (show 0 ≤ -a by omega)
    omega
theorem two_in {op : List UInt8} {a b : Int} (ha : inR a) : inR (twoF op a b).1 := by
  unfold twoF
  split
  · exact wr_inR _
  split
  · exact wr_inR _
  split
  · unfold timesF
    split
    · exact in0
    split
    · exact in0
    · exact wr_inR _
  split
  · split
    · exact in0
    · exact wr_inR _
  split
  · split
    · exact in0
    · exact tmod_in ha
  repeat' split
  all_goals exact bit_in _
theorem evF_in (vs : List (List UInt8 × List UInt8)) : ∀ t, inR (evF vs t).1
  | .dig t => by unfold evF; exact getD_in
  | .nam t => by unfold evF; exact valV_in _ _
  | .un op k => by
    unfold evF
    split
    · exact in0
    split
    · exact bit_in _
    · exact wr_inR _
  | .bin op a b => by
    unfold evF
    split
    · exact in0
    split
    · exact in0
    · exact two_in (evF_in vs a)
def Rel (vs : List (List UInt8 × List UInt8)) (t : Tr) (n : Int) (m0 m : Bool) : Prop := ((evF vs t).2 = true → n = (evF vs t).1 ∧ m = m0) ∧ ((evF vs t).2 = false → m = true)
theorem Rel.bin {vs : List (List UInt8 × List UInt8)} {a b : Tr} {x y : Int} {m0 m1 m2 : Bool} (ha : Rel vs a x m0 m1) (hb : Rel vs b y m1 m2) (op : List UInt8) : Rel vs (.bin op a b) (opR op x y).1 m0 (m2 || (opR op x y).2) := by
  obtain ⟨a1, a2⟩ := ha
  obtain ⟨b1, b2⟩ := hb
  unfold Rel
  rw [show evF vs (.bin op a b) = if (evF vs a).2 = false then (0, false) else if (evF vs b).2 = false then (0, false) else twoF op (evF vs a).1 (evF vs b).1 by rw [evF]]
  cases ea : (evF vs a).2 with
  | false =>
    have hm1 := a2 ea
    subst hm1
    have hm2 : m2 = true := by
      cases eb : (evF vs b).2 with
      | false => exact b2 eb
      | true => exact (b1 eb).2
    subst hm2
    exact ⟨fun h => by simp at h, fun _ => rfl⟩
  | true =>
    obtain ⟨rfl, rfl⟩ := a1 ea
    cases eb : (evF vs b).2 with
    | false =>
      have hm2 := b2 eb
      subst hm2
      exact ⟨fun h => by simp at h, fun _ => rfl⟩
    | true =>
      obtain ⟨rfl, rfl⟩ := b1 eb
      obtain ⟨h1, h2⟩ := two_same (op := op) (evF_in vs a) (evF_in vs b)
      rw [if_neg (by simp), if_neg (by simp)]
      refine ⟨fun h => ?_, fun h => ?_⟩
      · refine ⟨(h2 h).symm, ?_⟩
        rw [h] at h1
        have : (opR op (evF vs a).1 (evF vs b).1).2 = false := by simpa using h1.symm
        rw [this, Bool.or_false]
      · rw [h] at h1
        have : (opR op (evF vs a).1 (evF vs b).1).2 = true := by simpa using h1.symm
        rw [this, Bool.or_true]
theorem Rel.neg {vs : List (List UInt8 × List UInt8)} {k : Tr} {n : Int} {m0 m : Bool} (h : Rel vs k n m0 m) {op : List UInt8} (ho : op = [45]) : Rel vs (.un op k) (wr (0 - n)) m0 (m || ovSub 0 n) := by
  obtain ⟨h1, h2⟩ := h
  subst ho
  unfold Rel
  rw [show evF vs (.un [45] k) = if (evF vs k).2 = false then (0, false) else if ([45] : List UInt8) = [33] then bitF (decide ((evF vs k).1 = 0)) else (wr (0 - (evF vs k).1), !decide ((evF vs k).1 = minI)) by rw [evF]]
  cases e : (evF vs k).2 with
  | false =>
    have := h2 e
    subst this
    exact ⟨fun h => by simp at h, fun _ => rfl⟩
  | true =>
    obtain ⟨rfl, rfl⟩ := h1 e
    rw [if_neg (by simp), if_neg (by decide), neg_same (evF_in vs k)]
    refine ⟨fun h => ⟨rfl, ?_⟩, fun h => ?_⟩
    · have : ovSub 0 (evF vs k).1 = false := by simpa using h
      rw [this, Bool.or_false]
    · have : ovSub 0 (evF vs k).1 = true := by simpa using h
      rw [this, Bool.or_true]
theorem Rel.bang {vs : List (List UInt8 × List UInt8)} {k : Tr} {n : Int} {m0 m : Bool} (h : Rel vs k n m0 m) {op : List UInt8} (ho : op = [33]) : Rel vs (.un op k) (yesF (decide (n = 0))) m0 m := by
  obtain ⟨h1, h2⟩ := h
  subst ho
  unfold Rel
  rw [show evF vs (.un [33] k) = if (evF vs k).2 = false then (0, false) else if ([33] : List UInt8) = [33] then bitF (decide ((evF vs k).1 = 0)) else (wr (0 - (evF vs k).1), !decide ((evF vs k).1 = minI)) by rw [evF]]
  cases e : (evF vs k).2 with
  | false => exact ⟨fun h => by simp at h, fun _ => h2 e⟩
  | true =>
    obtain ⟨rfl, rfl⟩ := h1 e
    rw [if_neg (by simp), if_pos rfl]
    exact ⟨fun _ => ⟨rfl, rfl⟩, fun h => by cases h⟩
theorem Rel.dig (vs : List (List UInt8 × List UInt8)) (t : List UInt8) (m : Bool) : Rel vs (.dig t) ((refNum t).getD 0) m (m || !(refNum t).isSome) := by
  unfold Rel
  rw [show evF vs (.dig t) = ((refNum t).getD 0, (refNum t).isSome) by rw [evF]]
  refine ⟨fun h => ⟨rfl, ?_⟩, fun h => ?_⟩
  · show (m || !(refNum t).isSome) = m
    rw [show (refNum t).isSome = true from h]; simp
  · show (m || !(refNum t).isSome) = true
    rw [show (refNum t).isSome = false from h]; simp
theorem Rel.nam (vs : List (List UInt8 × List UInt8)) (t : List UInt8) (m : Bool) : Rel vs (.nam t) (valV t vs).1 m (m || !(valV t vs).2) := by
  unfold Rel
  rw [show evF vs (.nam t) = valV t vs by rw [evF]]
  refine ⟨fun h => ⟨rfl, ?_⟩, fun h => ?_⟩
  · rw [h]; simp
  · rw [h]; simp
inductive Rd where
  | U | P | S | X
  | PL (a : Int)
  | SL (a : Int)
inductive Rk (vs : List (List UInt8 × List UInt8)) : Rd → List UInt8 → Bool → Bool → Int → List UInt8 → Bool → Bool → Prop
  | minus {l m n l' f' m'} : (tk sgU l).1 = [45] → Rk vs .U (tk sgU l).2 false m n l' f' m' → Rk vs .U l false m (wr (0 - n)) l' f' (m' || ovSub 0 n)
  | bang {l m n l' f' m'} : (tk sgU l).1 = [33] → Rk vs .U (tk sgU l).2 false m n l' f' m' → Rk vs .U l false m (yesF (decide (n = 0))) l' f' m'
  | par {l m n l1 f1 m1} : (tk sgU l).1 = [40] → Rk vs .X (tk sgU l).2 false m n l1 f1 m1 → Rk vs .U l false m n (if f1 = true then dropBl l1 else (tk sgC l1).2) (f1 || (tk sgC l1).1 == []) m1
  | dig {l m} : (tk sgU l).1 = [] → tw digN (tk sgU l).2 ≠ [] → Rk vs .U l false m ((refNum (tw digN (tk sgU l).2)).getD 0) ((tk sgU l).2.drop (tw digN (tk sgU l).2).length) false (m || !(refNum (tw digN (tk sgU l).2)).isSome)
  | nam {l m} : (tk sgU l).1 = [] → tw digN (tk sgU l).2 = [] → nameB (tw moreN (tk sgU l).2) = true → Rk vs .U l false m (valV (tw moreN (tk sgU l).2) vs).1 ((tk sgU l).2.drop (tw moreN (tk sgU l).2).length) false (m || !(valV (tw moreN (tk sgU l).2) vs).2)
  | namx {l m} : (tk sgU l).1 = [] → tw digN (tk sgU l).2 = [] → nameB (tw moreN (tk sgU l).2) = false → Rk vs .U l false m 0 ((tk sgU l).2.drop (tw moreN (tk sgU l).2).length) true m
  | prod {l m a l1 f1 m1 n l' f' m'} : Rk vs .U l false m a l1 f1 m1 → Rk vs (.PL a) l1 f1 m1 n l' f' m' → Rk vs .P l false m n l' f' m'
  | pbad {a l m} : Rk vs (.PL a) l true m a (dropBl l) true m
  | pend {a l m} : (tk sgP l).1 = [] → Rk vs (.PL a) l false m a (tk sgP l).2 false m
  | pmore {a l m u l1 f1 m1 n l' f' m'} : (tk sgP l).1 ≠ [] → Rk vs .U (tk sgP l).2 false m u l1 f1 m1 → Rk vs (.PL (opR (tk sgP l).1 a u).1) l1 f1 (m1 || (opR (tk sgP l).1 a u).2) n l' f' m' → Rk vs (.PL a) l false m n l' f' m'
  | sum {l m a l1 f1 m1 n l' f' m'} : Rk vs .P l false m a l1 f1 m1 → Rk vs (.SL a) l1 f1 m1 n l' f' m' → Rk vs .S l false m n l' f' m'
  | sbad {a l m} : Rk vs (.SL a) l true m a (dropBl l) true m
  | send {a l m} : (tk sgS l).1 = [] → Rk vs (.SL a) l false m a (tk sgS l).2 false m
  | smore {a l m u l1 f1 m1 n l' f' m'} : (tk sgS l).1 ≠ [] → Rk vs .P (tk sgS l).2 false m u l1 f1 m1 → Rk vs (.SL (opR (tk sgS l).1 a u).1) l1 f1 (m1 || (opR (tk sgS l).1 a u).2) n l' f' m' → Rk vs (.SL a) l false m n l' f' m'
  | xbad {l m a l1 m1} : Rk vs .S l false m a l1 true m1 → Rk vs .X l false m a (dropBl l1) true m1
  | expr {l m a l1 m1} : Rk vs .S l false m a l1 false m1 → (tk sgX l1).1 = [] → Rk vs .X l false m a (tk sgX l1).2 false m1
  | cmp {l m a l1 m1 u l' f' m'} : Rk vs .S l false m a l1 false m1 → (tk sgX l1).1 ≠ [] → Rk vs .S (tk sgX l1).2 false m1 u l' f' m' → Rk vs .X l false m (opR (tk sgX l1).1 a u).1 l' f' m'

def toR (k : Kd) (a : Int) : Rd := match k with
  | .U => .U
  | .P => .P
  | .S => .S
  | .X => .X
  | .PL _ => .PL a
  | .SL _ => .SL a
def RelK (vs : List (List UInt8 × List UInt8)) (k : Kd) (a : Int) (m0 m : Bool) : Prop := match k with
  | .PL t => Rel vs t a m0 m
  | .SL t => Rel vs t a m0 m
  | _ => m = m0
theorem sgU_hop {l : List UInt8} (h1 : (tk sgU l).1 ≠ []) (h2 : (tk sgU l).1 ≠ [40]) : (tk sgU l).1 = [45] ∨ (tk sgU l).1 = [33] := by
  rcases takeF_mem sgU (dropBl l) with h | h
  · exact absurd h h1
  · have h : (tk sgU l).1 ∈ ([[45], [33], [40]] : List (List UInt8)) := h
    simp only [List.mem_cons, List.not_mem_nil, or_false] at h
    rcases h with h | h | h
    · exact .inl h
    · exact .inr h
    · exact absurd h h2
theorem sgX_cmp {l : List UInt8} (h : (tk sgX l).1 ≠ []) (a b : Int) : (opR (tk sgX l).1 a b).2 = false := by
  rcases takeF_mem sgX (dropBl l) with h' | h'
  · exact absurd h' h
  · have h : (tk sgX l).1 ∈ ([[60, 61], [62, 61], [61, 61], [33, 61], [60], [62]] : List (List UInt8)) := h'
    simp only [List.mem_cons, List.not_mem_nil, or_false] at h
    rcases h with h | h | h | h | h | h <;> rw [h] <;> rfl
theorem Ps.toRk (vs : List (List UInt8 × List UInt8)) {k : Kd} {l : List UInt8} {b : Bool} {t : Tr} {l' : List UInt8} {b' : Bool} (h : Ps k l b t l' b') : b = false → ∀ (a : Int) (m0 m : Bool), RelK vs k a m0 m → ∃ n l2 m', Rk vs (toR k a) l false m n l2 b' m' ∧ (b' = false → l2 = l' ∧ Rel vs t n m0 m') := by
  induction h with
  | @sign l b t l' b' h1 h2 hp ih =>
    intro hb a m0 m hm
    cases (show m0 = m from Eq.symm hm)
    obtain ⟨n, l2, m', hr, hq⟩ := ih hb a m0 m0 rfl
    rcases sgU_hop h1 h2 with ho | ho
    · exact ⟨_, _, _, .minus ho hr, fun e => ⟨(hq e).1, (hq e).2.neg ho⟩⟩
    · exact ⟨_, _, _, .bang ho hr, fun e => ⟨(hq e).1, (hq e).2.bang ho⟩⟩
  | @par l b t l1 b1 h1 hp ih =>
    intro hb a m0 m hm
    cases (show m0 = m from Eq.symm hm)
    obtain ⟨n, l2, m', hr, hq⟩ := ih hb a m0 m0 rfl
    cases b1 with
    | true =>
      refine ⟨n, if true = true then dropBl l2 else (tk sgC l2).2, m', ?_, fun e => ?_⟩
      · have := Rk.par h1 hr
        rw [Bool.true_or] at this ⊢
        exact this
      · rw [Bool.true_or] at e; cases e
    | false =>
      obtain ⟨rfl, hz⟩ := hq rfl
      have := Rk.par h1 hr
      rw [if_neg (by simp)] at this
      exact ⟨_, _, _, this, fun e => ⟨rfl, hz⟩⟩
  | dig h1 h2 =>
    intro hb a m0 m hm
    cases (show m0 = m from Eq.symm hm)
    subst hb
    exact ⟨_, _, _, .dig h1 h2, fun _ => ⟨rfl, Rel.dig vs _ _⟩⟩
  | nam h1 h2 h3 =>
    intro hb a m0 m hm
    cases (show m0 = m from Eq.symm hm)
    subst hb
    exact ⟨_, _, _, .nam h1 h2 h3, fun _ => ⟨rfl, Rel.nam vs _ _⟩⟩
  | namx h1 h2 h3 =>
    intro hb a m0 m hm
    exact ⟨_, _, _, .namx h1 h2 h3, fun e => by cases e⟩
  | @prod l b t l1 b1 t' l' b' hp1 hp2 ih1 ih2 =>
    intro hb a m0 m hm
    cases (show m0 = m from Eq.symm hm)
    obtain ⟨x, l2, m1, hr, hq⟩ := ih1 hb a m0 m0 rfl
    cases b1 with
    | true =>
      cases hp2.stick rfl
      exact ⟨_, _, _, .prod hr .pbad, fun e => by cases e⟩
    | false =>
      obtain ⟨rfl, hz⟩ := hq rfl
      obtain ⟨n, l3, m2, hr2, hq2⟩ := ih2 rfl x m0 m1 hz
      exact ⟨_, _, _, .prod hr hr2, hq2⟩
  | pbad => intro hb; cases hb
  | pend h1 =>
    intro _ a m0 m hm
    exact ⟨_, _, _, .pend h1, fun _ => ⟨rfl, hm⟩⟩
  | @pmore t l u l1 b1 t' l' b' h1 hp1 hp2 ih1 ih2 =>
    intro _ a m0 m hm
    have hm : Rel vs t a m0 m := hm
    obtain ⟨y, l2, m1, hr, hq⟩ := ih1 rfl a m m rfl
    cases b1 with
    | true =>
      cases hp2.stick rfl
      exact ⟨_, _, _, .pmore h1 hr .pbad, fun e => by cases e⟩
    | false =>
      obtain ⟨rfl, hz⟩ := hq rfl
      obtain ⟨n, l3, m2, hr2, hq2⟩ := ih2 rfl (opR (tk sgP l).1 a y).1 m0 _ (hm.bin hz _)
      exact ⟨_, _, _, .pmore h1 hr hr2, hq2⟩
  | @sum l b t l1 b1 t' l' b' hp1 hp2 ih1 ih2 =>
    intro hb a m0 m hm
    cases (show m0 = m from Eq.symm hm)
    obtain ⟨x, l2, m1, hr, hq⟩ := ih1 hb a m0 m0 rfl
    cases b1 with
    | true =>
      cases hp2.stick rfl
      exact ⟨_, _, _, .sum hr .sbad, fun e => by cases e⟩
    | false =>
      obtain ⟨rfl, hz⟩ := hq rfl
      obtain ⟨n, l3, m2, hr2, hq2⟩ := ih2 rfl x m0 m1 hz
      exact ⟨_, _, _, .sum hr hr2, hq2⟩
  | sbad => intro hb; cases hb
  | send h1 =>
    intro _ a m0 m hm
    exact ⟨_, _, _, .send h1, fun _ => ⟨rfl, hm⟩⟩
  | @smore t l u l1 b1 t' l' b' h1 hp1 hp2 ih1 ih2 =>
    intro _ a m0 m hm
    have hm : Rel vs t a m0 m := hm
    obtain ⟨y, l2, m1, hr, hq⟩ := ih1 rfl a m m rfl
    cases b1 with
    | true =>
      cases hp2.stick rfl
      exact ⟨_, _, _, .smore h1 hr .sbad, fun e => by cases e⟩
    | false =>
      obtain ⟨rfl, hz⟩ := hq rfl
      obtain ⟨n, l3, m2, hr2, hq2⟩ := ih2 rfl (opR (tk sgS l).1 a y).1 m0 _ (hm.bin hz _)
      exact ⟨_, _, _, .smore h1 hr hr2, hq2⟩
  | @expr l b t l1 b1 hp h1 ih =>
    intro hb a m0 m hm
    cases (show m0 = m from Eq.symm hm)
    obtain ⟨x, l2, m1, hr, hq⟩ := ih hb a m0 m0 rfl
    cases b1 with
    | true => exact ⟨_, _, _, .xbad hr, fun e => by cases e⟩
    | false =>
      obtain ⟨rfl, hz⟩ := hq rfl
      exact ⟨_, _, _, .expr hr h1, fun _ => ⟨rfl, hz⟩⟩
  | @cmp l b t l1 b1 u l' b' hp h1 hp2 ih1 ih2 =>
    intro hb a m0 m hm
    cases (show m0 = m from Eq.symm hm)
    obtain ⟨x, l2, m1, hr, hq⟩ := ih1 hb a m0 m0 rfl
    cases b1 with
    | true =>
      cases hp2.stick rfl
      exact ⟨_, _, _, .xbad hr, fun e => by cases e⟩
    | false =>
      obtain ⟨rfl, hz⟩ := hq rfl
      obtain ⟨y, l3, m2, hr2, hq2⟩ := ih2 rfl a m1 m1 rfl
      refine ⟨_, _, _, .cmp hr h1 hr2, fun e => ⟨(hq2 e).1, ?_⟩⟩
      have := hz.bin (hq2 e).2 (tk sgX l2).1
      rw [sgX_cmp h1, Bool.or_false] at this
      exact this

def refF (n : Int) (l2 : List UInt8) (f m : Bool) : Int × Int := if f = true ∨ dropBl l2 ≠ [] then (0, 2) else if m = true then (0, 6) else (n, 0)
theorem ref_same {vs : List (List UInt8 × List UInt8)} {l : List UInt8} {t : Tr} {l' : List UInt8} {b' : Bool} (h : Ps .X l false t l' b') : ∃ n l2 m', Rk vs .X l false false n l2 b' m' ∧ refF n l2 b' m' = evalF vs t l' b' := by
  obtain ⟨n, l2, m', hr, hq⟩ := h.toRk vs rfl 0 false false rfl
  refine ⟨n, l2, m', hr, ?_⟩
  unfold refF evalF
  cases b' with
  | true => rw [if_pos (.inl rfl), if_pos (.inl rfl)]
  | false =>
    obtain ⟨rfl, hq1, hq2⟩ := hq rfl
    by_cases hz : dropBl l2 = []
    · have hn : ¬ (false = true ∨ dropBl l2 ≠ []) := fun e => by
        rcases e with e | e
        · cases e
        · exact e hz
      rw [if_neg hn, if_neg hn]
      cases e : (evF vs t).2 with
      | true =>
        obtain ⟨rfl, rfl⟩ := hq1 e
        rw [if_neg (by simp), if_pos rfl]
      | false =>
        cases hq2 e
        rw [if_pos rfl, if_neg (by simp)]
    · rw [if_pos (.inr hz), if_pos (.inr hz)]
end Ar
