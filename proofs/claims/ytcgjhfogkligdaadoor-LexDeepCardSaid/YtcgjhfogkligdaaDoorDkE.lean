/-
  What every lex law asks besides (known) is reckoned once.
-/
import Derived.Test.YtcgjhfogkligdaaDoorDkA
namespace Dk
open Go Go.Proofs Ev
set_option maxRecDepth 1000000
theorem known8 : valOf (runF (envOf Tryd.prog exts kps) 20 (100 + 1) 10 [] (st0 [] Tryd.prog.globals.size)) = some (.bool true) := by kernel_rfl
theorem known8_ok : ExtOne Tryd.prog Tryd.prog.globals.size 10 (.const (.bool true) []) :=
  ext_const any_ok types_ok fns_ok exts_ok [] rfl (by kernel_rfl) rfl known8
abbrev exts8 : List (Nat × Ext) := [(10, .const (.bool true) []), (118, .indexByte), (114, .same)]
theorem exts8_ok : ∀ p ∈ exts8, ExtOne Tryd.prog Tryd.prog.globals.size p.1 p.2 := by
  intro p hp
  rcases List.mem_cons.1 hp with rfl | hp
  · exact known8_ok
  · exact exts_ok p hp
theorem none_held (w : World) : HoldsRows [] w.heap := fun g l h => by cases h
abbrev Yes (f : Nat) (vals : Array Value) (w : World) : Prop := Calls Tryd.prog f vals w (fun e w' => e = .returned (.bool true) ∧ w.keptBut w' (fun _ => False) ∧ w.heap.size ≤ w'.heap.size)
end Dk
