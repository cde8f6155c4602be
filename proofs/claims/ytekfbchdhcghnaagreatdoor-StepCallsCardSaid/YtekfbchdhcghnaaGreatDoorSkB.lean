/-
  Rows by hand, part 0: reckoned by the kernel.
-/
import Derived.Test.YtekfbchdhcghnaaGreatDoorSkA
namespace Sk
open Go Go.Proofs Ev
set_option maxRecDepth 1000000
noncomputable abbrev runC (a : Int) : Bool := isTrue (runF (envOf Tryz.prog extsK kps) 20 (200 + 1) 4 [.c (.int .i64 a)] (st0 gs Tryz.prog.globals.size))
theorem C0 : runC (Int.ofNat 0) = true := by kernel_rfl
theorem C1 : runC (Int.ofNat 1) = true := by kernel_rfl
theorem C2 : runC (Int.ofNat 2) = true := by kernel_rfl
theorem C3 : runC (Int.ofNat 3) = true := by kernel_rfl
theorem C4 : runC (Int.ofNat 4) = true := by kernel_rfl
theorem Cn (n : Nat) : runC (Int.ofNat (n + 5)) = true := by kernel_rfl
theorem Cm (n : Nat) : runC (Int.negSucc n) = true := by kernel_rfl
theorem CAll (a : Int) : runC a = true := match a with
  | .ofNat 0 => C0
  | .ofNat 1 => C1
  | .ofNat 2 => C2
  | .ofNat 3 => C3
  | .ofNat 4 => C4
  | .ofNat (n + 5) => Cn n
  | .negSucc n => Cm n
theorem walkC (a : Int) (w : World) (hw : HoldsRows gs w.heap) : Yes 4 #[.int .i64 a] w :=
  law_true_g any_ok types_ok fns_ok extsK_ok gs gs_ok (by kernel_rfl) (CAll a) (fun _ => .cons rfl .nil) w hw
end Sk
