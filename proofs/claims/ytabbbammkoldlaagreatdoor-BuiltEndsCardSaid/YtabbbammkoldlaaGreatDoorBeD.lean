/-
  BuiltEnds, all of it.
-/
import Derived.Test.YtabbbammkoldlaaGreatDoorBeC0
import Derived.Test.YtabbbammkoldlaaGreatDoorBeC1
import Derived.Test.YtabbbammkoldlaaGreatDoorBeC2
import Derived.Test.YtabbbammkoldlaaGreatDoorBeC3
import Derived.Test.YtabbbammkoldlaaGreatDoorBeC4
import Derived.Test.YtabbbammkoldlaaGreatDoorBeC5
import Derived.Test.YtabbbammkoldlaaGreatDoorBeC6
import Derived.Test.YtabbbammkoldlaaGreatDoorBeC7
namespace Be
open Go Go.Proofs Ev
set_option maxRecDepth 1000000
theorem pos0t (k : Nat) : runE (Int.ofNat (k + 1050)) (Int.ofNat 0) = true := by kernel_rfl
theorem pos0 (m : Nat) : runE (Int.ofNat m) (Int.ofNat 0) = true :=
  blocks (f := fun m => runE (Int.ofNat m) (Int.ofNat 0)) (J := 21) (fun j hj => match j, hj with
    | 0, _ => pos0x0
    | 1, _ => pos0x1
    | 2, _ => pos0x2
    | 3, _ => pos0x3
    | 4, _ => pos0x4
    | 5, _ => pos0x5
    | 6, _ => pos0x6
    | 7, _ => pos0x7
    | 8, _ => pos0x8
    | 9, _ => pos0x9
    | 10, _ => pos0x10
    | 11, _ => pos0x11
    | 12, _ => pos0x12
    | 13, _ => pos0x13
    | 14, _ => pos0x14
    | 15, _ => pos0x15
    | 16, _ => pos0x16
    | 17, _ => pos0x17
    | 18, _ => pos0x18
    | 19, _ => pos0x19
    | 20, _ => pos0x20
    | j + 21, hj => absurd hj (by omega)) pos0t m
theorem neg0t (k : Nat) : runE (Int.negSucc (k + 1000)) (Int.ofNat 0) = true := by kernel_rfl
theorem neg0 (m : Nat) : runE (Int.negSucc m) (Int.ofNat 0) = true :=
  blocks (f := fun m => runE (Int.negSucc m) (Int.ofNat 0)) (J := 20) (fun j hj => match j, hj with
    | 0, _ => neg0x0
    | 1, _ => neg0x1
    | 2, _ => neg0x2
    | 3, _ => neg0x3
    | 4, _ => neg0x4
    | 5, _ => neg0x5
    | 6, _ => neg0x6
    | 7, _ => neg0x7
    | 8, _ => neg0x8
    | 9, _ => neg0x9
    | 10, _ => neg0x10
    | 11, _ => neg0x11
    | 12, _ => neg0x12
    | 13, _ => neg0x13
    | 14, _ => neg0x14
    | 15, _ => neg0x15
    | 16, _ => neg0x16
    | 17, _ => neg0x17
    | 18, _ => neg0x18
    | 19, _ => neg0x19
    | j + 20, hj => absurd hj (by omega)) neg0t m
theorem pos1t (k : Nat) : runE (Int.ofNat (k + 1050)) (Int.ofNat 1) = true := by kernel_rfl
theorem pos1 (m : Nat) : runE (Int.ofNat m) (Int.ofNat 1) = true :=
  blocks (f := fun m => runE (Int.ofNat m) (Int.ofNat 1)) (J := 21) (fun j hj => match j, hj with
    | 0, _ => pos1x0
    | 1, _ => pos1x1
    | 2, _ => pos1x2
    | 3, _ => pos1x3
    | 4, _ => pos1x4
    | 5, _ => pos1x5
    | 6, _ => pos1x6
    | 7, _ => pos1x7
    | 8, _ => pos1x8
    | 9, _ => pos1x9
    | 10, _ => pos1x10
    | 11, _ => pos1x11
    | 12, _ => pos1x12
    | 13, _ => pos1x13
    | 14, _ => pos1x14
    | 15, _ => pos1x15
    | 16, _ => pos1x16
    | 17, _ => pos1x17
    | 18, _ => pos1x18
    | 19, _ => pos1x19
    | 20, _ => pos1x20
    | j + 21, hj => absurd hj (by omega)) pos1t m
theorem neg1t (k : Nat) : runE (Int.negSucc (k + 1000)) (Int.ofNat 1) = true := by kernel_rfl
theorem neg1 (m : Nat) : runE (Int.negSucc m) (Int.ofNat 1) = true :=
  blocks (f := fun m => runE (Int.negSucc m) (Int.ofNat 1)) (J := 20) (fun j hj => match j, hj with
    | 0, _ => neg1x0
    | 1, _ => neg1x1
    | 2, _ => neg1x2
    | 3, _ => neg1x3
    | 4, _ => neg1x4
    | 5, _ => neg1x5
    | 6, _ => neg1x6
    | 7, _ => neg1x7
    | 8, _ => neg1x8
    | 9, _ => neg1x9
    | 10, _ => neg1x10
    | 11, _ => neg1x11
    | 12, _ => neg1x12
    | 13, _ => neg1x13
    | 14, _ => neg1x14
    | 15, _ => neg1x15
    | 16, _ => neg1x16
    | 17, _ => neg1x17
    | 18, _ => neg1x18
    | 19, _ => neg1x19
    | j + 20, hj => absurd hj (by omega)) neg1t m
theorem way2 (a : Int) (k : Nat) : runE a (Int.ofNat (k + 2)) = true := by kernel_rfl
theorem wayn (a : Int) (k : Nat) : runE a (Int.negSucc k) = true := by kernel_rfl
theorem eAll (a b : Int) : runE a b = true := match b with
  | .ofNat 0 => match a with
    | .ofNat m => pos0 m
    | .negSucc m => neg0 m
  | .ofNat 1 => match a with
    | .ofNat m => pos1 m
    | .negSucc m => neg1 m
  | .ofNat (k + 2) => way2 a k
  | .negSucc k => wayn a k
theorem walkE (a b : Int) (w : World) (hw : HoldsRows gs w.heap) : Yes 3 #[.int .i64 a, .int .i64 b] w :=
  law_true_g any_ok types_ok fns_ok extsK_ok gs gs_ok (by kernel_rfl) (eAll a b) (fun _ => .cons rfl (.cons rfl .nil)) w hw
end Be
