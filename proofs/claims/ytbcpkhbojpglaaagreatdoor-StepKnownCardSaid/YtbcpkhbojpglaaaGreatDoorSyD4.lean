import Derived.Test.YtbcpkhbojpglaaaGreatDoorSyC
namespace Sy
open Go Go.Proofs Ev
set_option maxRecDepth 1000000
theorem braces0 : Braces 0 20 := by unfold Braces; kernel_rfl
theorem braces20 : Braces 20 20 := by unfold Braces; kernel_rfl
theorem braces40 : Braces 40 20 := by unfold Braces; kernel_rfl
theorem braces60 : Braces 60 20 := by unfold Braces; kernel_rfl
theorem braces80 : Braces 80 20 := by unfold Braces; kernel_rfl
theorem braces100 : Braces 100 20 := by unfold Braces; kernel_rfl
theorem braces120 : Braces 120 20 := by unfold Braces; kernel_rfl
theorem braces140 : Braces 140 20 := by unfold Braces; kernel_rfl
theorem braces160 : Braces 160 20 := by unfold Braces; kernel_rfl
theorem braces180 : Braces 180 20 := by unfold Braces; kernel_rfl
def st0D : List D := stateD .nils .nils .nils 0 0 false
def st1D : List D := stateD .nils .nils (.sl 14 [[.int .i64 1, .int .i64 0, .int .i64 1, .int .i64 0, .nils, .nils, .nils, .nils, .str z0, .int .i64 0, .int .i64 0, .str z0, .int .i64 0, .str z0]]) 0 1 false
def st2D : List D := stateD .nils funsD (.sl 14 [[.int .i64 1, .int .i64 0, .int .i64 1, .int .i64 0, .nils, .nils, .nils, .nils, .str z0, .int .i64 0, .int .i64 0, .str z0, .int .i64 0, .str z0]]) 0 (-1) false
def stEnd : List D := stateD (argsD 1) funsD .nils 125 (-1) true
theorem ends4 : [st0D, st1D, st2D, stF 200 3].map (runStep extsT) = [st1D, st2D, stF 0 4, stEnd].map fun s => some (.w (.agg s)) := by kernel_rfl
end Sy
