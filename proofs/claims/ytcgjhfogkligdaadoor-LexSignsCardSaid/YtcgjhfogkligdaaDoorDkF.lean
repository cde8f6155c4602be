/-
  LexSigns: signs side by side: reckoned by the kernel.
-/
import Derived.Test.YtcgjhfogkligdaaDoorDkE
namespace Dk
open Go Go.Proofs Ev
set_option maxRecDepth 1000000
noncomputable abbrev runS (a b : Int) : Bool := isTrue (runF (envOf Tryd.prog exts8 kps) 20 (100 + 1) 4 [.c (.int .i64 a), .c (.int .i64 b)] (st0 [] Tryd.prog.globals.size))
theorem s0x : allTo (fun b => runS (Int.ofNat 0) (Int.ofNat b)) 11 = true := by kernel_rfl
theorem s0n (n : Nat) : runS (Int.ofNat 0) (Int.ofNat (n + 11)) = true := by kernel_rfl
theorem s0m (n : Nat) : runS (Int.ofNat 0) (Int.negSucc n) = true := by kernel_rfl
theorem s0 (b : Int) : runS (Int.ofNat 0) b = true := match b with
  | .ofNat n => allTo_all s0x s0n n
  | .negSucc n => s0m n
theorem s1x : allTo (fun b => runS (Int.ofNat 1) (Int.ofNat b)) 11 = true := by kernel_rfl
theorem s1n (n : Nat) : runS (Int.ofNat 1) (Int.ofNat (n + 11)) = true := by kernel_rfl
theorem s1m (n : Nat) : runS (Int.ofNat 1) (Int.negSucc n) = true := by kernel_rfl
theorem s1 (b : Int) : runS (Int.ofNat 1) b = true := match b with
  | .ofNat n => allTo_all s1x s1n n
  | .negSucc n => s1m n
theorem s2x : allTo (fun b => runS (Int.ofNat 2) (Int.ofNat b)) 11 = true := by kernel_rfl
theorem s2n (n : Nat) : runS (Int.ofNat 2) (Int.ofNat (n + 11)) = true := by kernel_rfl
theorem s2m (n : Nat) : runS (Int.ofNat 2) (Int.negSucc n) = true := by kernel_rfl
theorem s2 (b : Int) : runS (Int.ofNat 2) b = true := match b with
  | .ofNat n => allTo_all s2x s2n n
  | .negSucc n => s2m n
theorem s3x : allTo (fun b => runS (Int.ofNat 3) (Int.ofNat b)) 11 = true := by kernel_rfl
theorem s3n (n : Nat) : runS (Int.ofNat 3) (Int.ofNat (n + 11)) = true := by kernel_rfl
theorem s3m (n : Nat) : runS (Int.ofNat 3) (Int.negSucc n) = true := by kernel_rfl
theorem s3 (b : Int) : runS (Int.ofNat 3) b = true := match b with
  | .ofNat n => allTo_all s3x s3n n
  | .negSucc n => s3m n
theorem s4x : allTo (fun b => runS (Int.ofNat 4) (Int.ofNat b)) 11 = true := by kernel_rfl
theorem s4n (n : Nat) : runS (Int.ofNat 4) (Int.ofNat (n + 11)) = true := by kernel_rfl
theorem s4m (n : Nat) : runS (Int.ofNat 4) (Int.negSucc n) = true := by kernel_rfl
theorem s4 (b : Int) : runS (Int.ofNat 4) b = true := match b with
  | .ofNat n => allTo_all s4x s4n n
  | .negSucc n => s4m n
theorem s5x : allTo (fun b => runS (Int.ofNat 5) (Int.ofNat b)) 11 = true := by kernel_rfl
theorem s5n (n : Nat) : runS (Int.ofNat 5) (Int.ofNat (n + 11)) = true := by kernel_rfl
theorem s5m (n : Nat) : runS (Int.ofNat 5) (Int.negSucc n) = true := by kernel_rfl
theorem s5 (b : Int) : runS (Int.ofNat 5) b = true := match b with
  | .ofNat n => allTo_all s5x s5n n
  | .negSucc n => s5m n
theorem s6x : allTo (fun b => runS (Int.ofNat 6) (Int.ofNat b)) 11 = true := by kernel_rfl
theorem s6n (n : Nat) : runS (Int.ofNat 6) (Int.ofNat (n + 11)) = true := by kernel_rfl
theorem s6m (n : Nat) : runS (Int.ofNat 6) (Int.negSucc n) = true := by kernel_rfl
theorem s6 (b : Int) : runS (Int.ofNat 6) b = true := match b with
  | .ofNat n => allTo_all s6x s6n n
  | .negSucc n => s6m n
theorem s7x : allTo (fun b => runS (Int.ofNat 7) (Int.ofNat b)) 11 = true := by kernel_rfl
theorem s7n (n : Nat) : runS (Int.ofNat 7) (Int.ofNat (n + 11)) = true := by kernel_rfl
theorem s7m (n : Nat) : runS (Int.ofNat 7) (Int.negSucc n) = true := by kernel_rfl
theorem s7 (b : Int) : runS (Int.ofNat 7) b = true := match b with
  | .ofNat n => allTo_all s7x s7n n
  | .negSucc n => s7m n
theorem s8x : allTo (fun b => runS (Int.ofNat 8) (Int.ofNat b)) 11 = true := by kernel_rfl
theorem s8n (n : Nat) : runS (Int.ofNat 8) (Int.ofNat (n + 11)) = true := by kernel_rfl
theorem s8m (n : Nat) : runS (Int.ofNat 8) (Int.negSucc n) = true := by kernel_rfl
theorem s8 (b : Int) : runS (Int.ofNat 8) b = true := match b with
  | .ofNat n => allTo_all s8x s8n n
  | .negSucc n => s8m n
theorem s9x : allTo (fun b => runS (Int.ofNat 9) (Int.ofNat b)) 11 = true := by kernel_rfl
theorem s9n (n : Nat) : runS (Int.ofNat 9) (Int.ofNat (n + 11)) = true := by kernel_rfl
theorem s9m (n : Nat) : runS (Int.ofNat 9) (Int.negSucc n) = true := by kernel_rfl
theorem s9 (b : Int) : runS (Int.ofNat 9) b = true := match b with
  | .ofNat n => allTo_all s9x s9n n
  | .negSucc n => s9m n
theorem s10x : allTo (fun b => runS (Int.ofNat 10) (Int.ofNat b)) 11 = true := by kernel_rfl
theorem s10n (n : Nat) : runS (Int.ofNat 10) (Int.ofNat (n + 11)) = true := by kernel_rfl
theorem s10m (n : Nat) : runS (Int.ofNat 10) (Int.negSucc n) = true := by kernel_rfl
theorem s10 (b : Int) : runS (Int.ofNat 10) b = true := match b with
  | .ofNat n => allTo_all s10x s10n n
  | .negSucc n => s10m n
theorem sn (n : Nat) (b : Int) : runS (Int.ofNat (n + 11)) b = true := by kernel_rfl
theorem sm (n : Nat) (b : Int) : runS (Int.negSucc n) b = true := by kernel_rfl
theorem sAll (a b : Int) : runS a b = true := match a with
  | .ofNat 0 => s0 b
  | .ofNat 1 => s1 b
  | .ofNat 2 => s2 b
  | .ofNat 3 => s3 b
  | .ofNat 4 => s4 b
  | .ofNat 5 => s5 b
  | .ofNat 6 => s6 b
  | .ofNat 7 => s7 b
  | .ofNat 8 => s8 b
  | .ofNat 9 => s9 b
  | .ofNat 10 => s10 b
  | .ofNat (n + 11) => sn n b
  | .negSucc n => sm n b
theorem walkS (a b : Int) (w : World) : Yes 4 #[.int .i64 a, .int .i64 b] w :=
  law_true_g any_ok types_ok fns_ok exts8_ok [] rfl (by kernel_rfl) (sAll a b) (fun _ => .cons rfl (.cons rfl .nil)) w (none_held w)
end Dk
