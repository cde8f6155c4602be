/-
  Rows by hand, part 1: reckoned by the kernel.
-/
import Derived.Test.YtfoeolikeakkhaaGreatDoorPoB0
namespace Po
open Go Go.Proofs Ev
set_option maxRecDepth 1000000
theorem R8 : runR (Int.ofNat 8) = true := by kernel_rfl
theorem R9 : runR (Int.ofNat 9) = true := by kernel_rfl
theorem R10 : runR (Int.ofNat 10) = true := by kernel_rfl
theorem R11 : runR (Int.ofNat 11) = true := by kernel_rfl
theorem R12 : runR (Int.ofNat 12) = true := by kernel_rfl
theorem R13 : runR (Int.ofNat 13) = true := by kernel_rfl
theorem R14 : runR (Int.ofNat 14) = true := by kernel_rfl
theorem R15 : runR (Int.ofNat 15) = true := by kernel_rfl
theorem Rn (n : Nat) : runR (Int.ofNat (n + 16)) = true := by kernel_rfl
theorem Rm (n : Nat) : runR (Int.negSucc n) = true := by kernel_rfl
theorem RAll (a : Int) : runR a = true := match a with
  | .ofNat 0 => R0
  | .ofNat 1 => R1
  | .ofNat 2 => R2
  | .ofNat 3 => R3
  | .ofNat 4 => R4
  | .ofNat 5 => R5
  | .ofNat 6 => R6
  | .ofNat 7 => R7
  | .ofNat 8 => R8
  | .ofNat 9 => R9
  | .ofNat 10 => R10
  | .ofNat 11 => R11
  | .ofNat 12 => R12
  | .ofNat 13 => R13
  | .ofNat 14 => R14
  | .ofNat 15 => R15
  | .ofNat (n + 16) => Rn n
  | .negSucc n => Rm n
theorem walkR (a : Int) (w : World) (hw : HoldsRows gs w.heap) : Yes 3 #[.int .i64 a] w :=
  law_true_g any_ok types_ok fns_ok extsK_ok gs gs_ok (by kernel_rfl) (RAll a) (fun _ => .cons rfl .nil) w hw
end Po
