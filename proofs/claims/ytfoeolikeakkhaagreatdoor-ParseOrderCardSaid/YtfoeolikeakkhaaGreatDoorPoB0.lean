/-
  Rows by hand, part 0: reckoned by the kernel.
-/
import Derived.Test.YtfoeolikeakkhaaGreatDoorPoA
namespace Po
open Go Go.Proofs Ev
set_option maxRecDepth 1000000
noncomputable abbrev runR (a : Int) : Bool := isTrue (runF (envOf Tryz.prog extsK kps) 20 (200 + 1) 3 [.c (.int .i64 a)] (st0 gs Tryz.prog.globals.size))
theorem R0 : runR (Int.ofNat 0) = true := by kernel_rfl
theorem R1 : runR (Int.ofNat 1) = true := by kernel_rfl
theorem R2 : runR (Int.ofNat 2) = true := by kernel_rfl
theorem R3 : runR (Int.ofNat 3) = true := by kernel_rfl
theorem R4 : runR (Int.ofNat 4) = true := by kernel_rfl
theorem R5 : runR (Int.ofNat 5) = true := by kernel_rfl
theorem R6 : runR (Int.ofNat 6) = true := by kernel_rfl
theorem R7 : runR (Int.ofNat 7) = true := by kernel_rfl
end Po
