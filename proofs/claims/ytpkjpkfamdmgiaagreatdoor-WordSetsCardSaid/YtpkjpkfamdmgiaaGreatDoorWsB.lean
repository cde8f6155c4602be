import Derived.Test.YtpkjpkfamdmgiaaGreatDoorWsA
import Derived.Test.YtpkjpkfamdmgiaaGreatDoorWkA
import Derived.Test.YtpkjpkfamdmgiaaGreatDoorEwK
namespace Ws
open Go Go.Proofs Ev
set_option linter.unusedVariables false
set_option maxRecDepth 1000000
def sX : Str := ⟨1, 120⟩
def z0 : Str := ⟨0, 0⟩
def sW : Str := ⟨13, 2890425852845241176541376619640⟩
def wordD : List D := [.sl 5 [[.int .i64 2, .str ⟨1, 120⟩, .str ⟨2, 14909⟩, .sl 5 [[.int .i64 1, .str ⟨3, 6561893⟩, .str ⟨0, 0⟩, .nils, .bool true]], .bool false], [.int .i64 2, .str ⟨1, 120⟩, .str ⟨0, 0⟩, .nils, .bool false]]]
def envD (v : Str) : List D := [.sl 2 [[.str sX, .str v]], .nils, .nils]
def runsD (v : Str) : D := .sl 4 [[.str v, .bool false, .bool true, .bool false], [.str v, .bool false, .bool true, .bool false]]
noncomputable abbrev run (f : Nat) (ps : List PW) : Option PV := frzRun (runF (envOf Tryz.prog Wk.extsM kps) 20 (2000 + 1) f (ps.map PW.toW) (st0 Wk.gs Tryz.prog.globals.size))
noncomputable abbrev run0 (f : Nat) (ps : List PW) : Option PV := frzRun (runF (envOf Tryz.prog Wk.extsM kps) 20 (2000 + 1) f (ps.map PW.toW) (st0 [] Tryz.prog.globals.size))
theorem first_run : run 6 [.c (.str sW)] = some (.w (.agg wordD)) := by kernel_rfl
theorem set_run (v : Str) : run0 13 [.agg [.nils, .nils, .nils], .c (.str sX), .c (.str v)] = some (.w (.agg (envD v))) := by kernel_rfl
theorem get_run (v : Str) : run0 14 [.agg (envD v), .c (.str sX)] = some (.tup [.c (.str v), .c (.bool true)]) := by kernel_rfl
def Runs (b n : Nat) (x : Nat) : Prop := (List.range' b n).map (fun k => run0 16 [.agg wordD, .agg (envD ⟨k + 1, x⟩), .c (.int .i64 0)]) = (List.range' b n).map fun k => some (.tup [.c (runsD ⟨k + 1, x⟩), .agg (envD ⟨k + 1, x⟩), .c (.int .i64 0)])
theorem runs0 (x : Nat) : Runs 0 20 x := by unfold Runs; kernel_rfl
theorem runs20 (x : Nat) : Runs 20 20 x := by unfold Runs; kernel_rfl
theorem runs40 (x : Nat) : Runs 40 20 x := by unfold Runs; kernel_rfl
theorem runs60 (x : Nat) : Runs 60 20 x := by unfold Runs; kernel_rfl
theorem runs80 (x : Nat) : Runs 80 20 x := by unfold Runs; kernel_rfl
end Ws
