/-
  ArithNums: numbers as texts, in plain Lean (no program here).
-/
import Derived.Lib.ParseIntB
namespace Nu
open Go Go.Lib
set_option linter.unusedSimpArgs false
set_option linter.unusedVariables false
def dig (c : UInt8) : Bool := decide (48 ≤ c.toNat) && decide (c.toNat ≤ 57)
theorem dig_iff (c : UInt8) : dig c = true ↔ 48 ≤ c.toNat ∧ c.toNat ≤ 57 := by simp [dig]
def val : Nat → List UInt8 → Nat
  | a, [] => a
  | a, c :: r => val (a * 10 + (c.toNat - 48)) r
theorem val_ge : ∀ (r : List UInt8) (a : Nat), a ≤ val a r
  | [], a => Nat.le_refl a
  | c :: r, a => Nat.le_trans (by omega) (val_ge r _)
theorem parseU (M : Nat) (hM : M < 18446744073709551620) : ∀ (r : List UInt8) (a u : Nat), a ≤ M → (parseUintM M a r = .ok u ↔ r.all dig = true ∧ val a r = u ∧ u ≤ M)
  | [], a, u, h => by
    constructor
    · intro e
      have e : a = u := NumEnd.ok.inj e
      exact ⟨rfl, e, e ▸ h⟩
    · rintro ⟨_, e, _⟩
      have e : a = u := e
      rw [e]; rfl
  | c :: r, a, u, h => by
    unfold parseUintM
    by_cases hd : 48 ≤ c.toNat ∧ c.toNat ≤ 57
    · rw [if_pos hd]
      have hdg : dig c = true := (dig_iff c).2 hd
      have hge := val_ge r (a * 10 + (c.toNat - 48))
      by_cases h1 : 1844674407370955162 ≤ a
      · rw [if_pos h1]
        constructor
        · intro h; exact absurd h (by simp)
        · intro hh
          have h2 : val (a * 10 + (c.toNat - 48)) r = u := hh.2.1
          have h3 := hh.2.2
          omega
      · rw [if_neg h1]
        by_cases h2 : M < a * 10 + (c.toNat - 48)
        · rw [if_pos h2]
          constructor
          · intro h; exact absurd h (by simp)
          · intro hh
            have h3 : val (a * 10 + (c.toNat - 48)) r = u := hh.2.1
            have h4 := hh.2.2
            omega
        · have ih := parseU M hM r (a * 10 + (c.toNat - 48)) u (by omega)
          rw [if_neg h2]
          refine ⟨fun h => ?_, fun h => ?_⟩
          · have h := ih.1 h
            exact ⟨by rw [List.all_cons, hdg]; exact h.1, h.2⟩
          · refine ih.2 ⟨?_, h.2⟩
            have h := h.1
            rw [List.all_cons, hdg] at h
            exact h
    · rw [if_neg hd]
      have hdg : dig c = false := by
        cases h : dig c with
        | false => rfl
        | true => exact absurd ((dig_iff c).1 h) hd
      constructor
      · intro h; exact absurd h (by simp)
      · rintro ⟨h, _⟩; rw [List.all_cons, hdg] at h; exact absurd h (by simp)
def refB (B : Nat) : Nat → List UInt8 → Option Nat
  | m, [] => some m
  | m, c :: r => if B < m * 10 + (c.toNat - 48) then none else refB B (m * 10 + (c.toNat - 48)) r
theorem refB_iff (B : Nat) : ∀ (r : List UInt8) (m u : Nat), m ≤ B → (refB B m r = some u ↔ val m r = u ∧ u ≤ B)
  | [], m, u, h => by
    constructor
    · intro e
      have e : m = u := Option.some.inj e
      exact ⟨e, e ▸ h⟩
    · rintro ⟨e, _⟩
      have e : m = u := e
      rw [e]; rfl
  | c :: r, m, u, h => by
    unfold refB
    have hge := val_ge r (m * 10 + (c.toNat - 48))
    by_cases h2 : B < m * 10 + (c.toNat - 48)
    · rw [if_pos h2]
      constructor
      · intro h; exact absurd h (by simp)
      · intro hh
        have h3 : val (m * 10 + (c.toNat - 48)) r = u := hh.1
        have h4 := hh.2
        omega
    · have ih := refB_iff B r (m * 10 + (c.toNat - 48)) u (by omega)
      rw [if_neg h2]
      exact ih
def refNum : List UInt8 → Option Int
  | [] => none
  | c :: r => if c.toNat = 45 then (if r.all dig = true ∧ r ≠ [] then (refB 9223372036854775808 0 r).map (fun u : Nat => -(u : Int)) else none)
    else (if (c :: r).all dig = true then (refB 9223372036854775807 0 (c :: r)).map (fun u : Nat => (u : Int)) else none)
theorem refNum_cons (c : UInt8) (r : List UInt8) : refNum (c :: r) = if c.toNat = 45 then (if r.all dig = true ∧ r ≠ [] then (refB 9223372036854775808 0 r).map (fun u : Nat => -(u : Int)) else none)
    else (if (c :: r).all dig = true then (refB 9223372036854775807 0 (c :: r)).map (fun u : Nat => (u : Int)) else none) := rfl
def numOf (l : List UInt8) : Option Int := if l.head? = some 43 then none else if l.contains 95 then none else match parseIntB 64 l with
  | .ok v => some v
  | _ => none
theorem parseUB (r : List UInt8) (u : Nat) : parseUintB 64 r = .ok u ↔ r ≠ [] ∧ r.all dig = true ∧ val 0 r = u ∧ u ≤ 18446744073709551615 := by
  unfold parseUintB
  by_cases h : r = []
  · rw [if_pos h]; simp [h]
  · rw [if_neg h, parseU (2 ^ 64 - 1) (by decide) r 0 u (by omega)]
    simp [h]
theorem parseI_neg {c : UInt8} (hc : c.toNat = 45) (r : List UInt8) (v : Int) : parseIntB 64 (c :: r) = .ok v ↔ (r.all dig = true ∧ r ≠ []) ∧ val 0 r ≤ 9223372036854775808 ∧ v = -(val 0 r : Int) := by
  unfold parseIntB
  simp only [hc, or_true, if_true, not_true, false_and, if_false, true_and]
  cases hp : parseUintB 64 r with
  | ok u =>
    have h := (parseUB r u).1 hp
    simp only []
    obtain ⟨h1, h2, h3, h4⟩ := h
    subst h3
    by_cases hb : 2 ^ (64 - 1) < val 0 r
    · rw [if_pos hb]
      constructor
      · intro h; exact absurd h (by simp)
      · rintro ⟨_, h, _⟩; omega
    · rw [if_neg hb]
      constructor
      · intro h; cases h; exact ⟨⟨h2, h1⟩, by omega, rfl⟩
      · rintro ⟨_, _, rfl⟩; rfl
  | «syntax» =>
    simp only []
    constructor
    · intro h; exact absurd h (by simp)
    · rintro ⟨⟨h2, h1⟩, h3, _⟩
      have := (parseUB r _).2 ⟨h1, h2, rfl, by omega⟩
      rw [hp] at this; cases this
  | range =>
    simp only []
    constructor
    · intro h; exact absurd h (by simp)
    · rintro ⟨⟨h2, h1⟩, h3, _⟩
      have := (parseUB r _).2 ⟨h1, h2, rfl, by omega⟩
      rw [hp] at this; cases this
theorem parseI_pos {c : UInt8} (hc : c.toNat ≠ 45) (hc' : c.toNat ≠ 43) (r : List UInt8) (v : Int) : parseIntB 64 (c :: r) = .ok v ↔ (c :: r).all dig = true ∧ val 0 (c :: r) ≤ 9223372036854775807 ∧ v = (val 0 (c :: r) : Int) := by
  unfold parseIntB
  simp only [hc, hc', or_self, if_false, not_false_eq_true, true_and, false_and]
  cases hp : parseUintB 64 (c :: r) with
  | ok u =>
    have h := (parseUB _ u).1 hp
    simp only []
    obtain ⟨h1, h2, h3, h4⟩ := h
    subst h3
    by_cases hb : 2 ^ (64 - 1) ≤ val 0 (c :: r)
    · rw [if_pos hb]
      constructor
      · intro h; exact absurd h (by simp)
      · rintro ⟨_, h, _⟩; omega
    · rw [if_neg hb]
      constructor
      · intro h; cases h; exact ⟨h2, by omega, rfl⟩
      · rintro ⟨_, _, rfl⟩; rfl
  | «syntax» =>
    simp only []
    constructor
    · intro h; exact absurd h (by simp)
    · rintro ⟨h2, h3, _⟩
      have := (parseUB (c :: r) _).2 ⟨by simp, h2, rfl, by omega⟩
      rw [hp] at this; cases this
  | range =>
    simp only []
    constructor
    · intro h; exact absurd h (by simp)
    · rintro ⟨h2, h3, _⟩
      have := (parseUB (c :: r) _).2 ⟨by simp, h2, rfl, by omega⟩
      rw [hp] at this; cases this
theorem not_dig {l : List UInt8} {c : UInt8} (hm : c ∈ l) (hd : dig c = false) : l.all dig = false := by
  rw [Bool.eq_false_iff]
  intro h
  have := List.all_eq_true.1 h c hm
  rw [hd] at this; cases this
theorem num_eq (l : List UInt8) : numOf l = refNum l := by
  cases l with
  | nil => rfl
  | cons c r =>
    by_cases h43 : c = 43
    · subst h43
      have hd : dig 43 = false := by decide
      rw [refNum_cons, if_neg (by decide), if_neg (by rw [not_dig (l := 43 :: r) (c := 43) (by simp) hd]; simp)]
      unfold numOf
      rw [if_pos (by rfl)]
    · have h43' : c.toNat ≠ 43 := fun h => h43 (UInt8.toNat_inj.1 (by rw [h]; rfl))
      unfold numOf
      rw [if_neg (by simpa using h43)]
      by_cases h95 : (c :: r).contains 95 = true
      · rw [if_pos h95]
        have hm : (95 : UInt8) ∈ c :: r := by simpa using h95
        have hd : dig 95 = false := by decide
        rw [refNum_cons]
        by_cases hc : c.toNat = 45
        · rw [if_pos hc]
          have hr : (95 : UInt8) ∈ r := by
            rcases List.mem_cons.1 hm with h | h
            · rw [← h] at hc; exact absurd hc (by decide)
            · exact h
          rw [if_neg (by rw [not_dig hr hd]; simp)]
        · rw [if_neg hc, if_neg (by rw [not_dig hm hd]; simp)]
      · rw [if_neg h95]
        rw [refNum_cons]
        by_cases hc : c.toNat = 45
        · rw [if_pos hc]
          apply Option.ext
          intro v
          have h1 := parseI_neg hc r
          by_cases hr : r.all dig = true ∧ r ≠ []
          · rw [if_pos hr]
            constructor
            · intro h
              cases hp : parseIntB 64 (c :: r) with
              | ok w =>
                rw [hp] at h
                cases h
                obtain ⟨_, h2, h3⟩ := (h1 v).1 hp
                rw [(refB_iff _ r 0 (val 0 r) (by omega)).2 ⟨rfl, h2⟩, h3]; rfl
              | «syntax» => rw [hp] at h; cases h
              | range => rw [hp] at h; cases h
            · intro h
              cases hq : refB 9223372036854775808 0 r with
              | none => rw [hq] at h; cases h
              | some u =>
                rw [hq] at h
                cases h
                obtain ⟨h2, h3⟩ := (refB_iff _ r 0 u (by omega)).1 hq
                rw [(h1 (-(u : Int))).2 ⟨hr, by omega, by rw [h2]⟩]
          · rw [if_neg hr]
            cases hp : parseIntB 64 (c :: r) with
            | ok w => exact absurd ((h1 w).1 hp).1 hr
            | «syntax» => rfl
            | range => rfl
        · rw [if_neg hc]
          apply Option.ext
          intro v
          have h1 := parseI_pos hc h43' r
          by_cases hr : (c :: r).all dig = true
          · rw [if_pos hr]
            constructor
            · intro h
              cases hp : parseIntB 64 (c :: r) with
              | ok w =>
                rw [hp] at h
                cases h
                obtain ⟨_, h2, h3⟩ := (h1 v).1 hp
                rw [(refB_iff _ (c :: r) 0 (val 0 (c :: r)) (by omega)).2 ⟨rfl, h2⟩, h3]; rfl
              | «syntax» => rw [hp] at h; cases h
              | range => rw [hp] at h; cases h
            · intro h
              cases hq : refB 9223372036854775807 0 (c :: r) with
              | none => rw [hq] at h; cases h
              | some u =>
                rw [hq] at h
                cases h
                obtain ⟨h2, h3⟩ := (refB_iff _ (c :: r) 0 u (by omega)).1 hq
                rw [(h1 (u : Int)).2 ⟨hr, by omega, by rw [h2]⟩]
          · rw [if_neg hr]
            cases hp : parseIntB 64 (c :: r) with
            | ok w => exact absurd ((h1 w).1 hp).1 hr
            | «syntax» => rfl
            | range => rfl
def digL (m : Nat) : List UInt8 := if 10 ≤ m then digL (m / 10) ++ [UInt8.ofNat (48 + m % 10)] else [UInt8.ofNat (48 + m % 10)]
termination_by m
decreasing_by omega
theorem digit_toNat (m : Nat) : (UInt8.ofNat (48 + m % 10)).toNat = 48 + m % 10 := by
  rw [UInt8.toNat_ofNat']; omega
theorem val_app : ∀ (l : List UInt8) (a : Nat) (c : UInt8), val a (l ++ [c]) = val a l * 10 + (c.toNat - 48)
  | [], a, c => rfl
  | d :: l, a, c => val_app l _ c
theorem digL_val (m : Nat) : val 0 (digL m) = m := by
  induction m using Nat.strongRecOn with
  | _ m ih =>
    unfold digL
    by_cases h : 10 ≤ m
    · rw [if_pos h, val_app, ih (m / 10) (by omega), digit_toNat]; omega
    · rw [if_neg h]
      show val (0 * 10 + ((UInt8.ofNat (48 + m % 10)).toNat - 48)) [] = m
      rw [digit_toNat]
      show 0 * 10 + _ = m
      omega
theorem digL_dig (m : Nat) : (digL m).all dig = true := by
  induction m using Nat.strongRecOn with
  | _ m ih =>
    have hd : dig (UInt8.ofNat (48 + m % 10)) = true := (dig_iff _).2 (by rw [digit_toNat]; omega)
    unfold digL
    by_cases h : 10 ≤ m
    · rw [if_pos h, List.all_append, ih (m / 10) (by omega), List.all_cons, hd]; rfl
    · rw [if_neg h, List.all_cons, hd]; rfl
theorem digL_ne (m : Nat) : digL m ≠ [] := by
  unfold digL
  split <;> simp
theorem digL_len (k : Nat) : ∀ m, m < 10 ^ (k + 1) → (digL m).length ≤ k + 1 := by
  induction k with
  | zero =>
    intro m h
    unfold digL
    rw [if_neg (by omega)]; simp
  | succ k ih =>
    intro m h
    unfold digL
    by_cases h10 : 10 ≤ m
    · rw [if_pos h10, List.length_append]
      have := ih (m / 10) (by rw [Nat.pow_succ] at h; omega)
      simp; omega
    · rw [if_neg h10]; simp
def itoaL (n : Int) : List UInt8 := if n < 0 then 45 :: digL n.natAbs else digL n.natAbs
theorem itoa_len (n : Int) (h1 : -9223372036854775808 ≤ n) (h2 : n ≤ 9223372036854775807) : (itoaL n).length ≤ 20 := by
  have := digL_len 18 n.natAbs (by omega)
  unfold itoaL
  split
  · simp; omega
  · omega
theorem num_itoa (n : Int) (h1 : -9223372036854775808 ≤ n) (h2 : n ≤ 9223372036854775807) : refNum (itoaL n) = some n := by
  unfold itoaL
  by_cases h : n < 0
  · rw [if_pos h]
    rw [refNum_cons, if_pos (by decide), if_pos ⟨digL_dig _, digL_ne _⟩, (refB_iff _ (digL n.natAbs) 0 n.natAbs (by omega)).2 ⟨digL_val _, by omega⟩]
    show some (-(n.natAbs : Int)) = some n
    congr 1; omega
  · rw [if_neg h]
    have hd := digL_dig n.natAbs
    have hv := digL_val n.natAbs
    cases hl : digL n.natAbs with
    | nil => exact absurd hl (digL_ne _)
    | cons c r =>
      rw [hl] at hd hv
      have hc : dig c = true := by
        rw [List.all_cons, Bool.and_eq_true] at hd; exact hd.1
      have := (dig_iff c).1 hc
      rw [refNum_cons, if_neg (by omega), if_pos hd, (refB_iff _ (c :: r) 0 n.natAbs (by omega)).2 ⟨hv, by omega⟩]
      show some ((n.natAbs : Int)) = some n
      congr 1; omega
end Nu
