/-
  BuiltNot: what a test tells, in plain Lean (no program here).
-/
import Derived.Test.YtkmffdoaahiopaaGreatDoorNuM
namespace Bn
open Nu
set_option linter.unusedVariables false
def st (b : Bool) : Nat := if b then 0 else 1
/-- -eq -ne -lt -le -gt -ge -/
def signs : List (List UInt8) := [[45, 101, 113], [45, 110, 101], [45, 108, 116], [45, 108, 101], [45, 103, 116], [45, 103, 101]]
def cmpI (i : Nat) (x y : Int) : Bool := match i with
  | 0 => decide (x = y)
  | 1 => !decide (x = y)
  | 2 => decide (x < y)
  | 3 => decide (x ≤ y)
  | 4 => decide (y < x)
  | _ => decide (y ≤ x)
def idx (op : List UInt8) : List (List UInt8) → Nat
  | [] => 0
  | s :: l => if op = s then 0 else idx op l + 1
/-- two texts and what stands between -/
def cmpV (a op b : List UInt8) : Option Nat :=
  if op = [61] then some (st (a == b)) else if op = [33, 61] then some (st (!(a == b))) else if signs.contains op then
    some (match refNum a, refNum b with
      | some x, some y => st (cmpI (idx op signs) x y)
      | _, _ => 2)
  else none
/-- a text and what is asked of it; there are no files -/
def oneV (op s : List UInt8) : Nat := if op = [45, 110] then st (!(s == [])) else if op = [45, 122] then st (s == []) else if op = [45, 101] then 1 else 2
def testV : List (List UInt8) → Nat
  | [] => 1
  | [a] => st (!(a == []))
  | [a, b] => if a = [33] then (if testV [b] < 2 then 1 - testV [b] else testV [b]) else oneV a b
  | [a, b, c] => match cmpV a b c with
    | some n => n
    | none => if a = [33] then (if testV [b, c] < 2 then 1 - testV [b, c] else testV [b, c]) else 2
  | a :: b :: c :: d :: l => if a = [33] then (if testV (b :: c :: d :: l) < 2 then 1 - testV (b :: c :: d :: l) else testV (b :: c :: d :: l)) else 2
theorem st_le (b : Bool) : st b ≤ 2 := by unfold st; split <;> omega
theorem cmpV_le {a op b : List UInt8} {n : Nat} (h : cmpV a op b = some n) : n ≤ 2 := by
  unfold cmpV at h
  split at h
  · cases h; exact st_le _
  · split at h
    · cases h; exact st_le _
    · split at h
      · cases h
        split
        · exact st_le _
        · exact Nat.le_refl _
      · cases h
theorem oneV_le (a b : List UInt8) : oneV a b ≤ 2 := by
  unfold oneV
  repeat' split
  all_goals first | exact st_le _ | omega
theorem testV_le : ∀ l, testV l ≤ 2
  | [] => by simp [testV]
  | [a] => by unfold testV; exact st_le _
  | [a, b] => by
    have := testV_le [b]
    unfold testV
    split
    · split <;> omega
    · exact oneV_le a b
  | [a, b, c] => by
    have := testV_le [b, c]
    unfold testV
    split
    · rename_i h; exact cmpV_le h
    · split
      · split <;> omega
      · omega
  | a :: b :: c :: d :: l => by
    have := testV_le (b :: c :: d :: l)
    unfold testV
    split
    · split <;> omega
    · omega
/-- the law -/
theorem test_not {l : List (List UInt8)} (h1 : 1 ≤ l.length) (h2 : l.length ≠ 2) : testV ([33] :: l) = if testV l < 2 then 1 - testV l else testV l := by
  match l, h1, h2 with
  | [a], _, _ => conv => lhs; unfold testV
                 simp
  | [a, b], _, h => exact absurd rfl h
  | a :: b :: c :: l, _, _ => conv => lhs; unfold testV
                              simp
end Bn
