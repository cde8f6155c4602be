import Derived.Test.YtofngijkhghnmaaPASx0
import Derived.Test.YtofngijkhghnmaaEwE
namespace Go.Proofs.Ytofngijkhghnmaa.PAS
open Go.RowKit
def kps : List (Nat × Nat) := [(2, 1), (3, 36780983383), (4, 2659790427637973563952075727), (5, 1303154739992195127768206463209469), (6, 79320011835903), (7, 4718669), (8, 437), (9, 66749), (10, 17592186059229), (11, 295147905179352827069), (12, 10881139319), (13, 680593591), (14, 264451), (15, 131229), (16, 8351), (17, 147583118394557202495), (18, 4227103), (19, 4227103), (20, 33261), (21, 141741527005), (22, 1075), (23, 1069), (24, 69256347679), (25, 537111495), (26, 16843965), (27, 8883), (28, 8883), (29, 12979), (30, 12979), (31, 8883), (32, 147), (33, 15), (34, 12979), (35, 65971)]
set_option maxRecDepth 1000000
theorem types_ok : Ev.typesOk Try.prog = true := by kernel_rfl
theorem fns_ok : kps.all (fun p => Ev.fnOk Try.prog p.1) = true := by kernel_rfl
theorem any_ok : Try.prog.follows .mixedOrders = true := by kernel_rfl
theorem known_run : Ev.isTrue (Ev.runF (Ev.envOf Try.prog [] kps) 20 100 14 [] ⟨.nil, Try.prog.globals.size⟩) = true := by kernel_rfl
def lazaruslaw27_known.f : Option (Bool) := some true
theorem lazaruslaw27_known.calls (r : Bool) (w : World) (h : lazaruslaw27_known.f = some r) :
    Calls Try.prog 14 #[] w fun e w' => e = .returned (.bool r) ∧ Below w.heap.size w w' := by
  obtain rfl := Option.some.inj h
  exact Ev.const_true Try.prog kps any_ok types_ok fns_ok known_run w
end Go.Proofs.Ytofngijkhghnmaa.PAS
