/-
  Rows by hand, part 0: reckoned by the kernel.
-/
import Derived.Test.YtfoeolikeakkhaaDoorPdA
namespace Pd
open Go Go.Proofs Ev
set_option maxRecDepth 1000000
noncomputable abbrev runO (a : Int) : Bool := isTrue (runF (envOf Tryd.prog extsK kps) 20 (200 + 1) 3 [.c (.int .i64 a)] (st0 gs Tryd.prog.globals.size))
theorem O0 : runO (Int.ofNat 0) = true := by kernel_rfl
theorem O1 : runO (Int.ofNat 1) = true := by kernel_rfl
theorem O2 : runO (Int.ofNat 2) = true := by kernel_rfl
theorem O3 : runO (Int.ofNat 3) = true := by kernel_rfl
theorem O4 : runO (Int.ofNat 4) = true := by kernel_rfl
theorem O5 : runO (Int.ofNat 5) = true := by kernel_rfl
theorem O6 : runO (Int.ofNat 6) = true := by kernel_rfl
theorem O7 : runO (Int.ofNat 7) = true := by kernel_rfl
theorem O8 : runO (Int.ofNat 8) = true := by kernel_rfl
theorem O9 : runO (Int.ofNat 9) = true := by kernel_rfl
theorem O10 : runO (Int.ofNat 10) = true := by kernel_rfl
theorem O11 : runO (Int.ofNat 11) = true := by kernel_rfl
theorem O12 : runO (Int.ofNat 12) = true := by kernel_rfl
theorem O13 : runO (Int.ofNat 13) = true := by kernel_rfl
theorem O14 : runO (Int.ofNat 14) = true := by kernel_rfl
theorem O15 : runO (Int.ofNat 15) = true := by kernel_rfl
theorem O16 : runO (Int.ofNat 16) = true := by kernel_rfl
theorem O17 : runO (Int.ofNat 17) = true := by kernel_rfl
theorem O18 : runO (Int.ofNat 18) = true := by kernel_rfl
theorem O19 : runO (Int.ofNat 19) = true := by kernel_rfl
theorem On (n : Nat) : runO (Int.ofNat (n + 20)) = true := by kernel_rfl
theorem Om (n : Nat) : runO (Int.negSucc n) = true := by kernel_rfl
theorem OAll (a : Int) : runO a = true := match a with
  | .ofNat 0 => O0
  | .ofNat 1 => O1
  | .ofNat 2 => O2
  | .ofNat 3 => O3
  | .ofNat 4 => O4
  | .ofNat 5 => O5
  | .ofNat 6 => O6
  | .ofNat 7 => O7
  | .ofNat 8 => O8
  | .ofNat 9 => O9
  | .ofNat 10 => O10
  | .ofNat 11 => O11
  | .ofNat 12 => O12
  | .ofNat 13 => O13
  | .ofNat 14 => O14
  | .ofNat 15 => O15
  | .ofNat 16 => O16
  | .ofNat 17 => O17
  | .ofNat 18 => O18
  | .ofNat 19 => O19
  | .ofNat (n + 20) => On n
  | .negSucc n => Om n
theorem walkO (a : Int) (w : World) (hw : HoldsRows gs w.heap) : Yes 3 #[.int .i64 a] w :=
  law_true_g any_ok types_ok fns_ok extsK_ok gs gs_ok (by kernel_rfl) (OAll a) (fun _ => .cons rfl .nil) w hw
end Pd
