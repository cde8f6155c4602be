/-
  Rows by hand, part 1: reckoned by the kernel.
-/
import Derived.Test.YtjmnhilkgjfllaaGreatDoorWpK0
namespace Wp
open Go Go.Proofs Ev
set_option maxRecDepth 1000000
theorem K13 : runK (Int.ofNat 13) = true := by kernel_rfl
theorem K14 : runK (Int.ofNat 14) = true := by kernel_rfl
theorem K15 : runK (Int.ofNat 15) = true := by kernel_rfl
theorem K16 : runK (Int.ofNat 16) = true := by kernel_rfl
theorem K17 : runK (Int.ofNat 17) = true := by kernel_rfl
theorem K18 : runK (Int.ofNat 18) = true := by kernel_rfl
theorem K19 : runK (Int.ofNat 19) = true := by kernel_rfl
theorem K20 : runK (Int.ofNat 20) = true := by kernel_rfl
theorem K21 : runK (Int.ofNat 21) = true := by kernel_rfl
theorem K22 : runK (Int.ofNat 22) = true := by kernel_rfl
theorem K23 : runK (Int.ofNat 23) = true := by kernel_rfl
theorem K24 : runK (Int.ofNat 24) = true := by kernel_rfl
theorem K25 : runK (Int.ofNat 25) = true := by kernel_rfl
theorem Kn (n : Nat) : runK (Int.ofNat (n + 26)) = true := by kernel_rfl
theorem Km (n : Nat) : runK (Int.negSucc n) = true := by kernel_rfl
theorem KAll (a : Int) : runK a = true := match a with
  | .ofNat 0 => K0
  | .ofNat 1 => K1
  | .ofNat 2 => K2
  | .ofNat 3 => K3
  | .ofNat 4 => K4
  | .ofNat 5 => K5
  | .ofNat 6 => K6
  | .ofNat 7 => K7
  | .ofNat 8 => K8
  | .ofNat 9 => K9
  | .ofNat 10 => K10
  | .ofNat 11 => K11
  | .ofNat 12 => K12
  | .ofNat 13 => K13
  | .ofNat 14 => K14
  | .ofNat 15 => K15
  | .ofNat 16 => K16
  | .ofNat 17 => K17
  | .ofNat 18 => K18
  | .ofNat 19 => K19
  | .ofNat 20 => K20
  | .ofNat 21 => K21
  | .ofNat 22 => K22
  | .ofNat 23 => K23
  | .ofNat 24 => K24
  | .ofNat 25 => K25
  | .ofNat (n + 26) => Kn n
  | .negSucc n => Km n
theorem walkK (a : Int) (w : World) (hw : HoldsRows gs w.heap) : Yes 3 #[.int .i64 a] w :=
  law_true_g any_ok types_ok fns_ok extsK_ok gs gs_ok (by kernel_rfl) (KAll a) (fun _ => .cons rfl .nil) w hw
end Wp
