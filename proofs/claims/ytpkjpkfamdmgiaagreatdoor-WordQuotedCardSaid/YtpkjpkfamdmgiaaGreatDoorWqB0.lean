import Derived.Test.YtpkjpkfamdmgiaaGreatDoorWkA
import Derived.Test.YtpkjpkfamdmgiaaGreatDoorWqG
import Derived.Test.YtpkjpkfamdmgiaaGreatDoorEwK
namespace Ws
open Go Go.Proofs Ev
set_option linter.unusedVariables false
set_option maxRecDepth 1000000
def txQ (q : Bool) : Str := if q = true then ⟨4, 572815394⟩ else ⟨2, 9336⟩
def wdQ (q : Bool) : List D := [.sl 5 [[.int .i64 2, .str ⟨1, 120⟩, .str ⟨0, 0⟩, .nils, .bool q]]]
def envV (v : Str) : List D := [.sl 2 [[.str ⟨1, 120⟩, .str v]], .nils, .nils]
def rnD (v : Str) (q : Bool) : D := .sl 4 [[.str v, .bool q, .bool (!q), .bool false]]
noncomputable abbrev runA (f : Nat) (ps : List PW) : Option PV := frzRun (runF (envOf Tryz.prog Wk.extsM kps) 20 (2000 + 1) f (ps.map PW.toW) (st0 Wk.gs Tryz.prog.globals.size))
noncomputable abbrev runB (f : Nat) (ps : List PW) : Option PV := frzRun (runF (envOf Tryz.prog Wk.extsM kps) 20 (2000 + 1) f (ps.map PW.toW) (st0 [] Tryz.prog.globals.size))
theorem first_q : runA 6 [.c (.str (txQ true))] = some (.w (.agg (wdQ true))) := by kernel_rfl
theorem first_u : runA 6 [.c (.str (txQ false))] = some (.w (.agg (wdQ false))) := by kernel_rfl
def RunsQ (q : Bool) (b n : Nat) (x : Nat) : Prop := (List.range' b n).map (fun k => runB 16 [.agg (wdQ q), .agg (envV ⟨k, x⟩), .c (.int .i64 0)]) = (List.range' b n).map fun k => some (.tup [.c (rnD ⟨k, x⟩ q), .agg (envV ⟨k, x⟩), .c (.int .i64 0)])
theorem runs_in {q : Bool} {b n k x : Nat} (h : RunsQ q b n x) (h1 : b ≤ k) (h2 : k < b + n) : runB 16 [.agg (wdQ q), .agg (envV ⟨k, x⟩), .c (.int .i64 0)] = some (.tup [.c (rnD ⟨k, x⟩ q), .agg (envV ⟨k, x⟩), .c (.int .i64 0)]) :=
  (List.map_inj_left.1 h) k (List.mem_range'_1.2 ⟨h1, h2⟩)
end Ws
