/-
  Rows by hand, part 0: reckoned by the kernel.
-/
import Derived.Test.YtjmnhilkgjfllaaGreatDoorWpA
namespace Wp
open Go Go.Proofs Ev
set_option maxRecDepth 1000000
noncomputable abbrev runE (a : Int) : Bool := isTrue (runF (envOf Tryz.prog extsK kps) 20 (200 + 1) 5 [.c (.int .i64 a)] (st0 gs Tryz.prog.globals.size))
theorem E0 : runE (Int.ofNat 0) = true := by kernel_rfl
theorem E1 : runE (Int.ofNat 1) = true := by kernel_rfl
theorem E2 : runE (Int.ofNat 2) = true := by kernel_rfl
theorem E3 : runE (Int.ofNat 3) = true := by kernel_rfl
theorem En (n : Nat) : runE (Int.ofNat (n + 4)) = true := by kernel_rfl
theorem Em (n : Nat) : runE (Int.negSucc n) = true := by kernel_rfl
theorem EAll (a : Int) : runE a = true := match a with
  | .ofNat 0 => E0
  | .ofNat 1 => E1
  | .ofNat 2 => E2
  | .ofNat 3 => E3
  | .ofNat (n + 4) => En n
  | .negSucc n => Em n
theorem walkE (a : Int) (w : World) (hw : HoldsRows gs w.heap) : Yes 5 #[.int .i64 a] w :=
  law_true_g any_ok types_ok fns_ok extsK_ok gs gs_ok (by kernel_rfl) (EAll a) (fun _ => .cons rfl .nil) w hw
end Wp
