import Derived.Test.YtpkjpkfamdmgiaaGreatDoorWqB0
namespace Ws
open Go Go.Proofs Ev
set_option linter.unusedVariables false
set_option maxRecDepth 1000000
theorem runsT0 (x : Nat) : RunsQ true 0 43 x := by unfold RunsQ; kernel_rfl
theorem runsT1 (x : Nat) : RunsQ true 43 43 x := by unfold RunsQ; kernel_rfl
theorem runsT2 (x : Nat) : RunsQ true 86 43 x := by unfold RunsQ; kernel_rfl
theorem runsT3 (x : Nat) : RunsQ true 129 43 x := by unfold RunsQ; kernel_rfl
theorem runsT4 (x : Nat) : RunsQ true 172 43 x := by unfold RunsQ; kernel_rfl
theorem runsT5 (x : Nat) : RunsQ true 215 43 x := by unfold RunsQ; kernel_rfl
theorem runsT6 (x : Nat) : RunsQ true 258 43 x := by unfold RunsQ; kernel_rfl
theorem runsT_all (k x : Nat) (h : k ≤ 300) : runB 16 [.agg (wdQ true), .agg (envV ⟨k, x⟩), .c (.int .i64 0)] = some (.tup [.c (rnD ⟨k, x⟩ true), .agg (envV ⟨k, x⟩), .c (.int .i64 0)]) := by
  rcases Nat.lt_or_ge k 43 with q | q
  · exact runs_in (runsT0 x) (by omega) (by omega)
  rcases Nat.lt_or_ge k 86 with q | q
  · exact runs_in (runsT1 x) (by omega) (by omega)
  rcases Nat.lt_or_ge k 129 with q | q
  · exact runs_in (runsT2 x) (by omega) (by omega)
  rcases Nat.lt_or_ge k 172 with q | q
  · exact runs_in (runsT3 x) (by omega) (by omega)
  rcases Nat.lt_or_ge k 215 with q | q
  · exact runs_in (runsT4 x) (by omega) (by omega)
  rcases Nat.lt_or_ge k 258 with q | q
  · exact runs_in (runsT5 x) (by omega) (by omega)
  exact runs_in (runsT6 x) (by omega) (by omega)
end Ws
