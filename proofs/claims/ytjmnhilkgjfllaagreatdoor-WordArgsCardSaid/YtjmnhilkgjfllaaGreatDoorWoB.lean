/-
  WordArgs: what is reckoned.
-/
import Derived.Test.YtjmnhilkgjfllaaGreatDoorWoA
namespace Wo
open Go Go.Proofs Ev
noncomputable abbrev runA (a : Int) : Bool := isTrue (runF (envOf Tryz.prog extsK kps) 20 (200 + 1) 4 [.c (.int .i64 a)] (st0 gs Tryz.prog.globals.size))
end Wo
