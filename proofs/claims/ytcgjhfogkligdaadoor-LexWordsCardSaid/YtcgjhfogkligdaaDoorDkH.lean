/-
  LexWords: words by hand: reckoned by the kernel.
-/
import Derived.Test.YtcgjhfogkligdaaDoorDkE
namespace Dk
open Go Go.Proofs Ev
set_option maxRecDepth 1000000
/-- what is known of Go's own tables -/
abbrev gsU : List (Nat × List C) := [(0, [.int .u8 240, .int .u8 240, .int .u8 240, .int .u8 240, .int .u8 240, .int .u8 240, .int .u8 240, .int .u8 240, .int .u8 240, .int .u8 240, .int .u8 240, .int .u8 240, .int .u8 240, .int .u8 240, .int .u8 240, .int .u8 240, .int .u8 240, .int .u8 240, .int .u8 240, .int .u8 240, .int .u8 240, .int .u8 240, .int .u8 240, .int .u8 240, .int .u8 240, .int .u8 240, .int .u8 240, .int .u8 240, .int .u8 240, .int .u8 240, .int .u8 240, .int .u8 240, .int .u8 240, .int .u8 240, .int .u8 240, .int .u8 240, .int .u8 240, .int .u8 240, .int .u8 240, .int .u8 240, .int .u8 240, .int .u8 240, .int .u8 240, .int .u8 240, .int .u8 240, .int .u8 240, .int .u8 240, .int .u8 240, .int .u8 240, .int .u8 240, .int .u8 240, .int .u8 240, .int .u8 240, .int .u8 240, .int .u8 240, .int .u8 240, .int .u8 240, .int .u8 240, .int .u8 240, .int .u8 240, .int .u8 240, .int .u8 240, .int .u8 240, .int .u8 240, .int .u8 240, .int .u8 240, .int .u8 240, .int .u8 240, .int .u8 240, .int .u8 240, .int .u8 240, .int .u8 240, .int .u8 240, .int .u8 240, .int .u8 240, .int .u8 240, .int .u8 240, .int .u8 240, .int .u8 240, .int .u8 240, .int .u8 240, .int .u8 240, .int .u8 240, .int .u8 240, .int .u8 240, .int .u8 240, .int .u8 240, .int .u8 240, .int .u8 240, .int .u8 240, .int .u8 240, .int .u8 240, .int .u8 240, .int .u8 240, .int .u8 240, .int .u8 240, .int .u8 240, .int .u8 240, .int .u8 240, .int .u8 240, .int .u8 240, .int .u8 240, .int .u8 240, .int .u8 240, .int .u8 240, .int .u8 240, .int .u8 240, .int .u8 240, .int .u8 240, .int .u8 240, .int .u8 240, .int .u8 240, .int .u8 240, .int .u8 240, .int .u8 240, .int .u8 240, .int .u8 240, .int .u8 240, .int .u8 240, .int .u8 240, .int .u8 240, .int .u8 240, .int .u8 240, .int .u8 240, .int .u8 240, .int .u8 240, .int .u8 240, .int .u8 240, .int .u8 241, .int .u8 241, .int .u8 241, .int .u8 241, .int .u8 241, .int .u8 241, .int .u8 241, .int .u8 241, .int .u8 241, .int .u8 241, .int .u8 241, .int .u8 241, .int .u8 241, .int .u8 241, .int .u8 241, .int .u8 241, .int .u8 241, .int .u8 241, .int .u8 241, .int .u8 241, .int .u8 241, .int .u8 241, .int .u8 241, .int .u8 241, .int .u8 241, .int .u8 241, .int .u8 241, .int .u8 241, .int .u8 241, .int .u8 241, .int .u8 241, .int .u8 241, .int .u8 241, .int .u8 241, .int .u8 241, .int .u8 241, .int .u8 241, .int .u8 241, .int .u8 241, .int .u8 241, .int .u8 241, .int .u8 241, .int .u8 241, .int .u8 241, .int .u8 241, .int .u8 241, .int .u8 241, .int .u8 241, .int .u8 241, .int .u8 241, .int .u8 241, .int .u8 241, .int .u8 241, .int .u8 241, .int .u8 241, .int .u8 241, .int .u8 241, .int .u8 241, .int .u8 241, .int .u8 241, .int .u8 241, .int .u8 241, .int .u8 241, .int .u8 241, .int .u8 241, .int .u8 241, .int .u8 2, .int .u8 2, .int .u8 2, .int .u8 2, .int .u8 2, .int .u8 2, .int .u8 2, .int .u8 2, .int .u8 2, .int .u8 2, .int .u8 2, .int .u8 2, .int .u8 2, .int .u8 2, .int .u8 2, .int .u8 2, .int .u8 2, .int .u8 2, .int .u8 2, .int .u8 2, .int .u8 2, .int .u8 2, .int .u8 2, .int .u8 2, .int .u8 2, .int .u8 2, .int .u8 2, .int .u8 2, .int .u8 2, .int .u8 2, .int .u8 19, .int .u8 3, .int .u8 3, .int .u8 3, .int .u8 3, .int .u8 3, .int .u8 3, .int .u8 3, .int .u8 3, .int .u8 3, .int .u8 3, .int .u8 3, .int .u8 3, .int .u8 35, .int .u8 3, .int .u8 3, .int .u8 52, .int .u8 4, .int .u8 4, .int .u8 4, .int .u8 68, .int .u8 241, .int .u8 241, .int .u8 241, .int .u8 241, .int .u8 241, .int .u8 241, .int .u8 241, .int .u8 241, .int .u8 241, .int .u8 241, .int .u8 241]), (1, [.int .u8 128, .int .u8 191, .int .u8 160, .int .u8 191, .int .u8 128, .int .u8 159, .int .u8 144, .int .u8 191, .int .u8 128, .int .u8 143, .int .u8 0, .int .u8 0, .int .u8 0, .int .u8 0, .int .u8 0, .int .u8 0, .int .u8 0, .int .u8 0, .int .u8 0, .int .u8 0, .int .u8 0, .int .u8 0, .int .u8 0, .int .u8 0, .int .u8 0, .int .u8 0, .int .u8 0, .int .u8 0, .int .u8 0, .int .u8 0, .int .u8 0, .int .u8 0])]
noncomputable abbrev runW (a : Int) : Bool := isTrue (runF (envOf Tryd.prog exts8 kps) 20 (100 + 1) 3 [.c (.int .i64 a)] (st0 gsU Tryd.prog.globals.size))
theorem w0 : runW (Int.ofNat 0) = true := by kernel_rfl
theorem w1 : runW (Int.ofNat 1) = true := by kernel_rfl
theorem w2 : runW (Int.ofNat 2) = true := by kernel_rfl
theorem w3 : runW (Int.ofNat 3) = true := by kernel_rfl
theorem w4 : runW (Int.ofNat 4) = true := by kernel_rfl
theorem w5 : runW (Int.ofNat 5) = true := by kernel_rfl
theorem w6 : runW (Int.ofNat 6) = true := by kernel_rfl
theorem w7 : runW (Int.ofNat 7) = true := by kernel_rfl
theorem w8 : runW (Int.ofNat 8) = true := by kernel_rfl
theorem w9 : runW (Int.ofNat 9) = true := by kernel_rfl
theorem w10 : runW (Int.ofNat 10) = true := by kernel_rfl
theorem w11 : runW (Int.ofNat 11) = true := by kernel_rfl
theorem w12 : runW (Int.ofNat 12) = true := by kernel_rfl
theorem w13 : runW (Int.ofNat 13) = true := by kernel_rfl
theorem wn (n : Nat) : runW (Int.ofNat (n + 14)) = true := by kernel_rfl
theorem wm (n : Nat) : runW (Int.negSucc n) = true := by kernel_rfl
theorem wAll (a : Int) : runW a = true := match a with
  | .ofNat 0 => w0
  | .ofNat 1 => w1
  | .ofNat 2 => w2
  | .ofNat 3 => w3
  | .ofNat 4 => w4
  | .ofNat 5 => w5
  | .ofNat 6 => w6
  | .ofNat 7 => w7
  | .ofNat 8 => w8
  | .ofNat 9 => w9
  | .ofNat 10 => w10
  | .ofNat 11 => w11
  | .ofNat 12 => w12
  | .ofNat 13 => w13
  | .ofNat (n + 14) => wn n
  | .negSucc n => wm n
theorem walkW (a : Int) (w : World) (hw : HoldsRows gsU w.heap) : Yes 3 #[.int .i64 a] w :=
  law_true_g any_ok types_ok fns_ok exts8_ok gsU (by kernel_rfl) (by kernel_rfl) (wAll a) (fun _ => .cons rfl .nil) w hw
end Dk
