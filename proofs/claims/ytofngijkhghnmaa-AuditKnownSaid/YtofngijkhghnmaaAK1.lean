import Derived.Test.YtofngijkhghnmaaEvZe
import Derived.Test.YtofngijkhghnmaaProg
import Derived.Test.YtofngijkhghnmaaChecked
import Derived.ProofKit
namespace AK
open Go Go.Proofs Ev
def kps : List (Nat × Nat) := [(2, 1), (3, 36780983383), (4, 2659790427637973563952075727), (5, 1303154739992195127768206463209469), (6, 79320011835903), (7, 4718669), (8, 437), (9, 66749), (10, 17592186059229), (11, 295147905179352827069), (12, 10881139319), (13, 680593591), (14, 264451), (15, 131229), (16, 8351), (17, 147583118394557202495), (18, 4227103), (19, 4227103), (20, 33261), (21, 141741527005), (22, 1075), (23, 1069), (24, 69256347679), (25, 537111495), (26, 16843965), (27, 8883), (28, 8883), (29, 12979), (30, 12979), (31, 8883), (32, 147), (33, 15), (34, 12979), (35, 65971)]
set_option maxRecDepth 1000000
theorem types_ok : typesOk Try.prog = true := by kernel_rfl
theorem fns_ok : kps.all (fun p => fnOk Try.prog p.1) = true := by kernel_rfl
theorem any_ok : Try.prog.follows .mixedOrders = true := by kernel_rfl

noncomputable abbrev run (a : Int) : Bool := isTrue (runF (envOf Try.prog [] kps) 20 100 5 [.c (.int .i64 a)] ⟨.nil, Try.prog.globals.size⟩)
theorem way0 : run (Int.ofNat 0) = true := by kernel_rfl
theorem way1 : run (Int.ofNat 1) = true := by kernel_rfl
theorem way2 : run (Int.ofNat 2) = true := by kernel_rfl
theorem way3 : run (Int.ofNat 3) = true := by kernel_rfl
theorem way4 : run (Int.ofNat 4) = true := by kernel_rfl
theorem way5 : run (Int.ofNat 5) = true := by kernel_rfl
theorem way6 : run (Int.ofNat 6) = true := by kernel_rfl
theorem way7 : run (Int.ofNat 7) = true := by kernel_rfl
theorem wayn (n : Nat) : run (Int.ofNat (n + 8)) = true := by kernel_rfl
theorem wayneg (n : Nat) : run (Int.negSucc n) = true := by kernel_rfl
theorem ways (a : Int) : run a = true := match a with
  | .ofNat 0 => way0
  | .ofNat 1 => way1
  | .ofNat 2 => way2
  | .ofNat 3 => way3
  | .ofNat 4 => way4
  | .ofNat 5 => way5
  | .ofNat 6 => way6
  | .ofNat 7 => way7
  | .ofNat (n + 8) => wayn n
  | .negSucc n => wayneg n
theorem walk (a : Int) (w : World) : Calls Try.prog 5 #[.int .i64 a] w (fun e w' => e = .returned (.bool true) ∧ w.keptBut w' (fun _ => False) ∧ w.heap.size ≤ w'.heap.size) :=
  law_true Try.prog kps any_ok types_ok fns_ok (ways a) (fun _ => .cons rfl .nil) w
#print axioms walk
end AK
