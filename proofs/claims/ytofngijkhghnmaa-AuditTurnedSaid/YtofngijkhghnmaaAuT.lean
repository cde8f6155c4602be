import Derived.Test.YtofngijkhghnmaaAuR
import Derived.Test.YtofngijkhghnmaaEwJ
import Derived.Test.YtofngijkhghnmaaEwJ
namespace Au
open Go Go.Proofs Ev
set_option linter.unusedVariables false
set_option linter.unusedSimpArgs false
set_option maxRecDepth 100000
/-! ### the plain law -/
theorem lastP_full {l : List (List D)} : ∀ i, i ≤ l.length → (lastP l i).length = i → lastP l i = l.take i := by
  intro i
  induction i with
  | zero => intro _ _; rfl
  | succ i ih =>
    intro hi hl
    obtain ⟨x, hx⟩ : ∃ x, l[i]? = some x := ⟨_, List.getElem?_eq_getElem (by omega)⟩
    by_cases ha : againD l i
    · rw [lastP_again ha] at hl
      have := lastP_le l i
      omega
    · rw [lastP_not ha hx, List.length_append, List.length_singleton] at hl
      rw [lastP_not ha hx, ih (by omega) (by omega), List.take_add_one, hx]; rfl
theorem lastD_full {l : List (List D)} (h : (lastD l).length = l.length) : lastD l = l := by
  have := lastP_full l.length (Nat.le_refl _) h
  rwa [List.take_length] at this
/-- a call whose input is one byte longer -/
def turnC (x : List D) (inp : List UInt8) : List D := x.set 3 (.str (Str.ofL (inp ++ [120])))
theorem turn_not {l : List (List D)} {k : Nat} {n : Int} {av vs : D} {inp : List UInt8} (hk : l[k]? = some [.int .i64 n, av, vs, .str (Str.ofL inp)]) : ¬ eqCalls (lastD (l.set k (turnC [.int .i64 n, av, vs, .str (Str.ofL inp)] inp))) l := by
  intro ⟨h1, h2⟩
  have hlt := (List.getElem?_eq_some_iff.1 hk).1
  rw [lastD_full (by rw [h1]; simp)] at h2
  have := (h2 k _ _ (List.getElem?_set_self hlt) hk).2.2.2
  have h3 : Str.ofL (inp ++ [120]) = Str.ofL inp := by simpa [turnC] using this
  have := congrArg List.length (ofL_inj h3)
  simp at this
theorem left_not {l : List (List D)} {k : Nat} (hk : k < l.length) : ¬ eqCalls (lastD (l.take k ++ l.drop (k + 1))) l := by
  intro ⟨h1, _⟩
  have := lastN_le (l.take k ++ l.drop (k + 1))
  rw [h1] at this
  simp at this
  omega
/-! ### rows of structs, one cell turned -/
theorem putL_left {Y R : List C} {o : Nat} {c : C} (h : o < Y.length) : putL (Y ++ R) o [c] = putL Y o [c] ++ R := by
  unfold putL
  rw [List.take_append_of_le_length (by omega), List.drop_append_of_le_length (by simp; omega)]
  simp
theorem putL_right {Y R : List C} {o : Nat} {c : C} : putL (Y ++ R) (Y.length + o) [c] = Y ++ putL R o [c] := by
  unfold putL
  rw [List.take_length_add_append, Nat.add_assoc, List.drop_length_add_append]
  simp
theorem put_flat (z : Nat) : ∀ (l : List (List D)) (k j : Nat) (x : List D) (c : D), (∀ x ∈ l, x.length = z) → l[k]? = some x → j < z → putL (cellsD l.flatten) (k * z + j) [c.toC] = cellsD (l.set k (x.set j c)).flatten
  | [], k, j, x, c, _, hk, _ => by simp at hk
  | y :: l, 0, j, x, c, hl, hk, hj => by
    have hy := hl y (by simp)
    simp at hk
    subst hk
    have e : cellsD (y :: l).flatten = cellsD y ++ cellsD l.flatten := by simp [cellsD_append]
    rw [e, Nat.zero_mul, Nat.zero_add, putL_left (by simp [cellsD, hy, hj])]
    have : putL (cellsD y) j [c.toC] = cellsD (y.set j c) := by
      unfold putL cellsD
      rw [List.map_set, List.set_eq_take_append_cons_drop, if_pos (by simp [hy, hj])]
      simp
    rw [this]
    simp [cellsD_append]
  | y :: l, k + 1, j, x, c, hl, hk, hj => by
    have hy := hl y (by simp)
    have ih := put_flat z l k j x c (fun x hx => hl x (by simp [hx])) (by simpa using hk) hj
    have e : cellsD (y :: l).flatten = cellsD y ++ cellsD l.flatten := by simp [cellsD_append]
    have hyl : (cellsD y).length = z := by simp [cellsD, hy]
    rw [e, show (k + 1) * z + j = (cellsD y).length + (k * z + j) by rw [hyl, Nat.add_mul]; omega, putL_right, ih]
    simp [cellsD_append]
/-! ### numbers -/
theorem intC_eq (k : IntKind) (n : Int) : intC k n = some (.int k n) := by
  unfold intC; rw [forceI_eq]
theorem b_mask (E : Env) (t : Nat) (ox oy : Operand) (at_ : Int) : ∃ m : Nat, m ≤ 65535 ∧ Ev.binOp E .and t ox oy (.c (.int .i64 at_)) (.c (.int .i64 65535)) = some (vc (.int .i64 (Int.ofNat m))) := by
  refine ⟨Nat.land (bitsN .i64 at_) 65535, Nat.and_le_right, ?_⟩
  have hk : kEq .i64 .i64 = true := rfl
  have hb : bitsN .i64 65535 = 65535 := rfl
  have hw : wrapK .i64 (Int.ofNat (Nat.land (bitsN .i64 at_) 65535)) = Int.ofNat (Nat.land (bitsN .i64 at_) 65535) := wrap_nat (by have : Nat.land (bitsN .i64 at_) 65535 ≤ 65535 := Nat.and_le_right; omega)
  simp only [Ev.binOp, isShift, hk, intOp, hb, hw, intC_eq, retC_some]
theorem b_rem (E : Env) (t : Nat) (ox oy : Operand) (m n : Nat) (hn : 1 ≤ n) : Ev.binOp E .rem t ox oy (.c (.int .i64 (Int.ofNat m))) (.c (.int .i64 (Int.ofNat n))) = some (vc (.int .i64 (Int.ofNat (m % n)))) := by
  have hk : kEq .i64 .i64 = true := rfl
  have h0 : iEq (Int.ofNat n) 0 = false := by rw [iEq_eq]; simp; omega
  have ht : (Int.ofNat m).tmod (Int.ofNat n) = Int.ofNat (m % n) := rfl
  simp only [Ev.binOp, isShift, hk, intOp, h0, ht, intC_eq, retC_some]
theorem b_sadd (E : Env) (t : Nat) (ox oy : Operand) (l r : List UInt8) (h : l.length + r.length ≤ 9223372036854775807) : Ev.binOp E .add t ox oy (.c (.str (Str.ofL l))) (.c (.str (Str.ofL r))) = some (vc (.str (Str.ofL (l ++ r)))) := by
  have hl : Nat.ble (Nat.add (Str.ofL l).len (Str.ofL r).len) 9223372036854775807 = true := nble_true h
  simp only [Ev.binOp, strOp, hl, Str.app_ofL, retC_some]
end Au
