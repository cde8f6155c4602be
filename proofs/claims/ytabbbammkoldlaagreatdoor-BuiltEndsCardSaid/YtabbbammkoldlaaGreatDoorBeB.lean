/-
  BuiltEnds: what is reckoned, in blocks of fifty.
-/
import Derived.Test.YtabbbammkoldlaaGreatDoorBeA
namespace Be
open Go Go.Proofs Ev
noncomputable abbrev runE (a b : Int) : Bool := isTrue (runF (envOf Tryz.prog extsK kps) 20 (200 + 1) 3 [.c (.int .i64 a), .c (.int .i64 b)] (st0 gs Tryz.prog.globals.size))
noncomputable abbrev pos (w j : Nat) : Bool := allTo (fun k => runE (Int.ofNat (Nat.add (Nat.mul 50 j) k)) (Int.ofNat w)) 50
noncomputable abbrev neg (w j : Nat) : Bool := allTo (fun k => runE (Int.negSucc (Nat.add (Nat.mul 50 j) k)) (Int.ofNat w)) 50
theorem allTo_low {f : Nat → Bool} : ∀ {n : Nat}, allTo f n = true → ∀ i, i < n → f i = true
  | 0, _, i, hi => absurd hi (Nat.not_lt_zero i)
  | n + 1, h, i, hi => by
    simp only [allTo] at h
    cases hb : f n with
    | false => rw [hb] at h; cases h
    | true =>
      rw [hb] at h
      by_cases e : i = n
      · rw [e]; exact hb
      · exact allTo_low h i (by omega)
theorem blocks {f : Nat → Bool} {J : Nat} (h : ∀ j, j < J → allTo (fun k => f (Nat.add (Nat.mul 50 j) k)) 50 = true) (h' : ∀ k, f (k + 50 * J) = true) (m : Nat) : f m = true := by
  by_cases hm : m < 50 * J
  · have := allTo_low (h (m / 50) (by omega)) (m % 50) (by omega)
    have e : Nat.add (Nat.mul 50 (m / 50)) (m % 50) = m := by show 50 * (m / 50) + m % 50 = m; omega
    rw [e] at this; exact this
  · obtain ⟨k, rfl⟩ : ∃ k, m = k + 50 * J := ⟨m - 50 * J, by omega⟩
    exact h' k
end Be
