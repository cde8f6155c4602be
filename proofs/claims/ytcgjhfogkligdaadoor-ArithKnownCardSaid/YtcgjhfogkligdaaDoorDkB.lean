/-
  ArithKnown, each row by hand: reckoned by the kernel.
-/
import Derived.Test.YtcgjhfogkligdaaDoorDkA
namespace Dk
open Go Go.Proofs Ev
set_option maxRecDepth 1000000
noncomputable abbrev runA (a : Int) : Bool := isTrue (runF (envOf Tryd.prog exts kps) 20 100 6 [.c (.int .i64 a)] (st0 gsErr Tryd.prog.globals.size))
theorem a0 : runA (Int.ofNat 0) = true := by kernel_rfl
theorem a1 : runA (Int.ofNat 1) = true := by kernel_rfl
theorem a2 : runA (Int.ofNat 2) = true := by kernel_rfl
theorem a3 : runA (Int.ofNat 3) = true := by kernel_rfl
theorem a4 : runA (Int.ofNat 4) = true := by kernel_rfl
theorem a5 : runA (Int.ofNat 5) = true := by kernel_rfl
theorem a6 : runA (Int.ofNat 6) = true := by kernel_rfl
theorem a7 : runA (Int.ofNat 7) = true := by kernel_rfl
theorem a8 : runA (Int.ofNat 8) = true := by kernel_rfl
theorem a9 : runA (Int.ofNat 9) = true := by kernel_rfl
theorem a10 : runA (Int.ofNat 10) = true := by kernel_rfl
theorem a11 : runA (Int.ofNat 11) = true := by kernel_rfl
theorem a12 : runA (Int.ofNat 12) = true := by kernel_rfl
theorem a13 : runA (Int.ofNat 13) = true := by kernel_rfl
theorem a14 : runA (Int.ofNat 14) = true := by kernel_rfl
theorem a15 : runA (Int.ofNat 15) = true := by kernel_rfl
theorem a16 : runA (Int.ofNat 16) = true := by kernel_rfl
theorem a17 : runA (Int.ofNat 17) = true := by kernel_rfl
theorem a18 : runA (Int.ofNat 18) = true := by kernel_rfl
theorem a19 : runA (Int.ofNat 19) = true := by kernel_rfl
theorem a20 : runA (Int.ofNat 20) = true := by kernel_rfl
theorem a21 : runA (Int.ofNat 21) = true := by kernel_rfl
theorem a22 : runA (Int.ofNat 22) = true := by kernel_rfl
theorem a23 : runA (Int.ofNat 23) = true := by kernel_rfl
theorem a24 : runA (Int.ofNat 24) = true := by kernel_rfl
theorem a25 : runA (Int.ofNat 25) = true := by kernel_rfl
theorem a26 : runA (Int.ofNat 26) = true := by kernel_rfl
theorem a27 : runA (Int.ofNat 27) = true := by kernel_rfl
theorem an (n : Nat) : runA (Int.ofNat (n + 28)) = true := by kernel_rfl
theorem am (n : Nat) : runA (Int.negSucc n) = true := by kernel_rfl
theorem aAll (a : Int) : runA a = true := match a with
  | .ofNat 0 => a0
  | .ofNat 1 => a1
  | .ofNat 2 => a2
  | .ofNat 3 => a3
  | .ofNat 4 => a4
  | .ofNat 5 => a5
  | .ofNat 6 => a6
  | .ofNat 7 => a7
  | .ofNat 8 => a8
  | .ofNat 9 => a9
  | .ofNat 10 => a10
  | .ofNat 11 => a11
  | .ofNat 12 => a12
  | .ofNat 13 => a13
  | .ofNat 14 => a14
  | .ofNat 15 => a15
  | .ofNat 16 => a16
  | .ofNat 17 => a17
  | .ofNat 18 => a18
  | .ofNat 19 => a19
  | .ofNat 20 => a20
  | .ofNat 21 => a21
  | .ofNat 22 => a22
  | .ofNat 23 => a23
  | .ofNat 24 => a24
  | .ofNat 25 => a25
  | .ofNat 26 => a26
  | .ofNat 27 => a27
  | .ofNat (n + 28) => an n
  | .negSucc n => am n
theorem walkA (a : Int) (w : World) (hw : HoldsRows gsErr w.heap) : Calls Tryd.prog 6 #[.int .i64 a] w (fun e w' => e = .returned (.bool true) ∧ w.keptBut w' (fun _ => False) ∧ w.heap.size ≤ w'.heap.size) :=
  law_true_g any_ok types_ok fns_ok exts_ok gsErr (by kernel_rfl) (by kernel_rfl) (aAll a) (fun _ => .cons rfl .nil) w hw
end Dk
