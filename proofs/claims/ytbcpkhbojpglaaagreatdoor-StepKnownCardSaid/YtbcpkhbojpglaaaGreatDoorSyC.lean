import Derived.Test.YtbcpkhbojpglaaaGreatDoorSyG
namespace Sy
open Go Go.Proofs Ev
set_option linter.unusedVariables false
set_option maxRecDepth 1000000
/-! 'f() { f; }; f' -/
def z0 : Str := ⟨0, 0⟩
def sF : Str := ⟨1, 102⟩
def progD : List D := [.sl 7 [[.str ⟨3, 7562609⟩, .str z0, .sl 1 [[.int .i64 1], [.int .i64 4]], .nils, .nils, .nils, .nils], [.str ⟨3, 6714734⟩, .str sF, .sl 1 [[.int .i64 2]], .nils, .nils, .nils, .nils], [.str ⟨5, 444301538672⟩, .str z0, .sl 1 [[.int .i64 3]], .nils, .nils, .nils, .nils],
  [.str ⟨3, 6516068⟩, .str z0, .nils, .sl 1 [[.sl 5 [[.int .i64 1, .str sF, .str z0, .nils, .bool false]]]], .nils, .nils, .nils], [.str ⟨3, 6516068⟩, .str z0, .nils, .sl 1 [[.sl 5 [[.int .i64 1, .str sF, .str z0, .nils, .bool false]]]], .nils, .nils, .nils]], .int .i64 0]
def frameD (rest : D) : List D := [.int .i64 11, .int .i64 0, .int .i64 0, .int .i64 0, rest, .nils, .nils, .nils, .str z0, .int .i64 0, .int .i64 0, .str z0, .int .i64 0, .str z0]
def framesD : Nat → List (List D)
  | 0 => []
  | m + 1 => frameD .nils :: List.replicate m (frameD (.sl 1 []))
def argsD : Nat → D
  | 0 => .nils
  | _ + 1 => .sl 1 []
def stateD (args funs frames : D) (status now : Int) (over : Bool) : List D := [.nils, args, funs, .nils, .int .i64 status, .str z0, .str z0, .int .i64 0, .int .i64 0, .str z0, .int .i64 0, .str z0, frames, .int .i64 now, .int .i64 0, .bool over, .bool false, .int .i64 0, .nils, .nils, .str z0]
def funsD : D := .sl 2 [[.str sF, .int .i64 2]]
/-- so many calls deep -/
def stF (m : Nat) (now : Int) : List D := stateD (argsD m) funsD (.sl 14 (framesD m)) 0 now false
noncomputable abbrev runStep (ex : List (Nat × Ext)) (s : List D) : Option PV := frzRun (runF (envOf Tryz.prog ex kps) 20 (200 + 1) 9 [.agg (cellsD progD), .agg (cellsD s)] (st0 gs Tryz.prog.globals.size))
def nowF : Nat → Int
  | 0 => 4
  | _ + 1 => 3
/-- the steps from b on: a call begins -/
def Calls_ (b n : Nat) : Prop := (List.range' b n).map (fun m => runStep extsT (stF m (nowF m))) = (List.range' b n).map fun m => some (.w (.agg (stF (m + 1) 2)))
/-- the steps from b on: into the braces -/
def Braces (b n : Nat) : Prop := (List.range' b n).map (fun m => runStep extsC (stF (m + 1) 2)) = (List.range' b n).map fun m => some (.w (.agg (stF (m + 1) 3)))
end Sy
