import Derived.Test.YtaapmoclinjefaaDoorArV6
import Derived.Test.YtaapmoclinjefaaDoorEwL
namespace Ar
open Go Go.Proofs Ev Go.Lib Nu
set_option linter.unusedVariables false
set_option linter.unusedSimpArgs false
set_option linter.unnecessarySimpa false
set_option maxRecDepth 100000
def okB (r : Option PV) (b : Bool) : Bool := match r with
  | some (.w (.c (.bool x))) => x == b
  | _ => false
theorem okB_some {r : Option PV} {b : Bool} (h : okB r b = true) : r = some (.w (.c (.bool b))) := by
  unfold okB at h
  split at h
  · rw [eq_of_beq h]
  · cases h
noncomputable def runB1 (f : Nat) (k : IntKind) (n : Nat) : Option PV := frzRun (runF (envOf Tryd.prog [] kps) 20 (20 + 1) f [.c (.int k (Int.ofNat n))] (st0 [] Tryd.prog.globals.size))
theorem all59 : (List.range 256).all (fun n => okB (runB1 59 .u8 n) (digN n)) = true := by kernel_rfl
theorem all61 : (List.range 256).all (fun n => okB (runB1 61 .u8 n) (moreN n)) = true := by kernel_rfl
theorem all62 : (List.range 256).all (fun n => okB (runB1 62 .i32 n) (moreN n)) = true := by kernel_rfl
theorem all79 : (List.range 256).all (fun n => okB (runB1 79 .i32 n) (firstN n)) = true := by kernel_rfl
def RB1 (k : IntKind) (p : Nat → Bool) (ps : List PW) (v : PV) : Prop := ∃ n, n < 256 ∧ ps = [.c (.int k (Int.ofNat n))] ∧ v = .w (.c (.bool (p n)))
theorem rb1_u {k : IntKind} {p : Nat → Bool} {n : Nat} {v : PV} (h : RB1 k p [.c (.int k (Int.ofNat n))] v) : v = .w (.c (.bool (p n))) := by
  obtain ⟨m, _, h1, rfl⟩ := h
  simp only [List.cons.injEq, PW.c.injEq, D.int.injEq, true_and, and_true] at h1
  have h1 : ((n : Nat) : Int) = (m : Int) := h1
  rw [show n = m by omega]
theorem c_B1 {f : Nat} {k : IntKind} {p : Nat → Bool} (h : (List.range 256).all (fun n => okB (runB1 f k n) (p n)) = true) : Ok (f, .fn (ofG (RB1 k p)) []) := ext_frz (exts := []) Ak.any_ok types_ok fns_ok ok0 [] rfl rfl _ 20 20 (by
  intro ps pv hF
  obtain ⟨n, hn, rfl, rfl⟩ := ofG_some hF
  exact okB_some (List.all_eq_true.1 h n (List.mem_range.2 hn)))
theorem c59 : Ok (59, .fn (ofG (RB1 .u8 digN)) []) := c_B1 all59
theorem c61 : Ok (61, .fn (ofG (RB1 .u8 moreN)) []) := c_B1 all61
theorem c62 : Ok (62, .fn (ofG (RB1 .i32 moreN)) []) := c_B1 all62
theorem c79 : Ok (79, .fn (ofG (RB1 .i32 firstN)) []) := c_B1 all79
theorem callR_B1 {X : T Ext} {f : Nat} {k : IntKind} {p : Nat → Bool} (h : (En X).ext.get f = some (.fn (ofG (RB1 k p)) [])) {n : Nat} (hn : n < 256) (s : St) : CallR (En X) f [.c (.int k (Int.ofNat n))] s (.w (.c (.bool (p n)))) s :=
  callR_fn (ps := [.c (.int k (Int.ofNat n))]) (pv := .w (.c (.bool (p n)))) h (ofG_eq ⟨n, hn, rfl, rfl⟩ fun v' h => rb1_u h) rfl
end Ar
