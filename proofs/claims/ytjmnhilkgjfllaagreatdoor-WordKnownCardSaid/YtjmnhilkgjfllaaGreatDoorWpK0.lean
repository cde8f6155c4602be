/-
  Rows by hand, part 0: reckoned by the kernel.
-/
import Derived.Test.YtjmnhilkgjfllaaGreatDoorWpA
namespace Wp
open Go Go.Proofs Ev
set_option maxRecDepth 1000000
noncomputable abbrev runK (a : Int) : Bool := isTrue (runF (envOf Tryz.prog extsK kps) 20 (200 + 1) 3 [.c (.int .i64 a)] (st0 gs Tryz.prog.globals.size))
theorem K0 : runK (Int.ofNat 0) = true := by kernel_rfl
theorem K1 : runK (Int.ofNat 1) = true := by kernel_rfl
theorem K2 : runK (Int.ofNat 2) = true := by kernel_rfl
theorem K3 : runK (Int.ofNat 3) = true := by kernel_rfl
theorem K4 : runK (Int.ofNat 4) = true := by kernel_rfl
theorem K5 : runK (Int.ofNat 5) = true := by kernel_rfl
theorem K6 : runK (Int.ofNat 6) = true := by kernel_rfl
theorem K7 : runK (Int.ofNat 7) = true := by kernel_rfl
theorem K8 : runK (Int.ofNat 8) = true := by kernel_rfl
theorem K9 : runK (Int.ofNat 9) = true := by kernel_rfl
theorem K10 : runK (Int.ofNat 10) = true := by kernel_rfl
theorem K11 : runK (Int.ofNat 11) = true := by kernel_rfl
theorem K12 : runK (Int.ofNat 12) = true := by kernel_rfl
end Wp
