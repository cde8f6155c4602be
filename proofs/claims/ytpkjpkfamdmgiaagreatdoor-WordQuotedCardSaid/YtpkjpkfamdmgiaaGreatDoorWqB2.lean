import Derived.Test.YtpkjpkfamdmgiaaGreatDoorWqB0
namespace Ws
open Go Go.Proofs Ev
set_option linter.unusedVariables false
set_option maxRecDepth 1000000
theorem runsF0 (x : Nat) : RunsQ false 0 43 x := by unfold RunsQ; kernel_rfl
theorem runsF1 (x : Nat) : RunsQ false 43 43 x := by unfold RunsQ; kernel_rfl
theorem runsF2 (x : Nat) : RunsQ false 86 43 x := by unfold RunsQ; kernel_rfl
theorem runsF3 (x : Nat) : RunsQ false 129 43 x := by unfold RunsQ; kernel_rfl
theorem runsF4 (x : Nat) : RunsQ false 172 43 x := by unfold RunsQ; kernel_rfl
theorem runsF5 (x : Nat) : RunsQ false 215 43 x := by unfold RunsQ; kernel_rfl
theorem runsF6 (x : Nat) : RunsQ false 258 43 x := by unfold RunsQ; kernel_rfl
theorem runsF_all (k x : Nat) (h : k ≤ 300) : runB 16 [.agg (wdQ false), .agg (envV ⟨k, x⟩), .c (.int .i64 0)] = some (.tup [.c (rnD ⟨k, x⟩ false), .agg (envV ⟨k, x⟩), .c (.int .i64 0)]) := by
  rcases Nat.lt_or_ge k 43 with q | q
  · exact runs_in (runsF0 x) (by omega) (by omega)
  rcases Nat.lt_or_ge k 86 with q | q
  · exact runs_in (runsF1 x) (by omega) (by omega)
  rcases Nat.lt_or_ge k 129 with q | q
  · exact runs_in (runsF2 x) (by omega) (by omega)
  rcases Nat.lt_or_ge k 172 with q | q
  · exact runs_in (runsF3 x) (by omega) (by omega)
  rcases Nat.lt_or_ge k 215 with q | q
  · exact runs_in (runsF4 x) (by omega) (by omega)
  rcases Nat.lt_or_ge k 258 with q | q
  · exact runs_in (runsF5 x) (by omega) (by omega)
  exact runs_in (runsF6 x) (by omega) (by omega)
end Ws
