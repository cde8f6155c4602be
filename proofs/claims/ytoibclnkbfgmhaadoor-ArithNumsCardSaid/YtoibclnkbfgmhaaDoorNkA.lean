/-
  What the evaluator asks of this program: the functions, what is kept of each, and the closed facts; the outer functions' contracts.
-/
import Derived.Test.YtoibclnkbfgmhaaDoorEwH
import Derived.Test.YtoibclnkbfgmhaaDoorEwH
import Derived.Test.YtoibclnkbfgmhaaDoorEwH
import Derived.Test.YtoibclnkbfgmhaaDoorProg
import Derived.Test.YtoibclnkbfgmhaaDoorChecked
import Derived.ProofKit
import Derived.Shelf.Strconv.Clone
namespace Nk
open Go Go.Proofs Ev
def kps : List (Nat × Nat) := [(2, 1), (3, 140737691850739), (4, 17597), (5, 4690104811709), (6, 17413), (7, 4383), (8, 147), (9, 147), (10, 8397255), (11, 637), (12, 637), (13, 16397), (14, 2147570675), (15, 8531), (16, 147), (17, 539168711), (18, 1121071012895), (19, 295517), (20, 129), (21, 19352258135594232244089331), (22, 174224577096382171037739960777314905735155), (23, 187072209581261271206726987124361732537557266448327), (24, 1171), (25, 1171), (26, 43591), (27, 43591), (28, 18890845), (29, 135270227), (30, 77611434099), (31, 33555063), (32, 13), (33, 675365106681885568251890028412666823), (34, 147), (36, 5), (37, 8796093163507), (38, 5), (39, 1218370562159455504433341), (40, 201005), (41, 37), (42, 21), (43, 18890845), (44, 83), (45, 317), (46, 2131), (47, 135539), (48, 65971), (49, 15), (50, 115), (52, 8391165), (53, 21), (54, 599563828219485437), (55, 19), (56, 65549), (57, 147), (58, 1125904336552947), (59, 33075), (60, 5), (61, 51), (62, 37), (63, 21), (64, 135299293), (65, 24573), (66, 61447984286128824476406153834618308375617927833625690099), (67, 5), (68, 8301), (69, 393203), (70, 316912650057057350528795147295), (71, 5), (72, 109), (73, 147), (74, 1037), (75, 5), (76, 5), (77, 5), (78, 5), (79, 165), (80, 5), (81, 5), (111, 1536)]

set_option maxRecDepth 1000000
theorem types_ok : typesOk Tryd.prog = true := by kernel_rfl
theorem fns_ok : kps.all (fun p => fnOk Tryd.prog p.1) = true := by kernel_rfl
theorem any_ok : Tryd.prog.follows .mixedOrders = true := by kernel_rfl
theorem ib_ok : ExtOne Tryd.prog Tryd.prog.globals.size 51 .indexByte :=
  ext_indexByte Tryd.func51 (by kernel_rfl) (by kernel_rfl) (by kernel_rfl) (by kernel_rfl)
/-- internal/stringslite.Clone, by the library's contract -/
def ren : Go.Shelf.Ren := ⟨fun _ => 40, fun n => bif n == 5 then 5 else bif n == 9 then 9 else bif n == 3 then 3 else bif n == 4 then 4 else bif n == 37 then 42 else bif n == 127 then 87 else 0, fun n => n⟩
theorem clone_lays : LaysM.n316 Tryd.prog ren where
  mixed := any_ok
  f316 := by kernel_rfl
  t0 := by kernel_rfl
  a0 := fun w => by kernel_rfl
  z0 := fun w => by kernel_rfl
  v0 := fun w => by kernel_rfl
  i0 := by kernel_rfl
  t3 := by kernel_rfl
  a3 := fun w => by kernel_rfl
  z3 := fun w => by kernel_rfl
  v3 := fun w => by kernel_rfl
  i3 := by kernel_rfl
  t4 := by kernel_rfl
  a4 := fun w => by kernel_rfl
  z4 := fun w => by kernel_rfl
  v4 := fun w => by kernel_rfl
  i4 := by kernel_rfl
  t5 := by kernel_rfl
  a5 := fun w => by kernel_rfl
  z5 := fun w => by kernel_rfl
  v5 := fun w => by kernel_rfl
  i5 := by kernel_rfl
  t9 := by kernel_rfl
  a9 := fun w => by kernel_rfl
  z9 := fun w => by kernel_rfl
  v9 := fun w => by kernel_rfl
  i9 := by kernel_rfl
  t37 := by kernel_rfl
  a37 := fun w => by kernel_rfl
  z37 := fun w => by kernel_rfl
  v37 := fun w => by kernel_rfl
  i37 := by kernel_rfl
  t127 := by kernel_rfl
  a127 := fun w => by kernel_rfl
  z127 := fun w => by kernel_rfl
  v127 := fun w => by kernel_rfl
  i127 := by kernel_rfl
theorem clone_ok : ExtOne Tryd.prog Tryd.prog.globals.size 40 .same :=
  ext_clone (Go.Proofs.enters_of clone_lays.f316 (by kernel_rfl) rfl) (fun s w h => Any.stringslite_Clone clone_lays s w h)
abbrev exts : List (Nat × Ext) := [(51, .indexByte), (40, .same)]
theorem exts_ok : ∀ p ∈ exts, ExtOne Tryd.prog Tryd.prog.globals.size p.1 p.2 := by
  intro p hp
  rcases List.mem_cons.1 hp with rfl | hp
  · exact ib_ok
  · rw [List.mem_singleton] at hp
    subst hp
    exact clone_ok
/-- what is known of package variables -/
abbrev gs : List (Nat × List C) := [(3, [.int .u8 240, .int .u8 240, .int .u8 240, .int .u8 240, .int .u8 240, .int .u8 240, .int .u8 240, .int .u8 240, .int .u8 240, .int .u8 240, .int .u8 240, .int .u8 240, .int .u8 240, .int .u8 240, .int .u8 240, .int .u8 240, .int .u8 240, .int .u8 240, .int .u8 240, .int .u8 240, .int .u8 240, .int .u8 240, .int .u8 240, .int .u8 240, .int .u8 240, .int .u8 240, .int .u8 240, .int .u8 240, .int .u8 240, .int .u8 240, .int .u8 240, .int .u8 240, .int .u8 240, .int .u8 240, .int .u8 240, .int .u8 240, .int .u8 240, .int .u8 240, .int .u8 240, .int .u8 240, .int .u8 240, .int .u8 240, .int .u8 240, .int .u8 240, .int .u8 240, .int .u8 240, .int .u8 240, .int .u8 240, .int .u8 240, .int .u8 240, .int .u8 240, .int .u8 240, .int .u8 240, .int .u8 240, .int .u8 240, .int .u8 240, .int .u8 240, .int .u8 240, .int .u8 240, .int .u8 240, .int .u8 240, .int .u8 240, .int .u8 240, .int .u8 240, .int .u8 240, .int .u8 240, .int .u8 240, .int .u8 240, .int .u8 240, .int .u8 240, .int .u8 240, .int .u8 240, .int .u8 240, .int .u8 240, .int .u8 240, .int .u8 240, .int .u8 240, .int .u8 240, .int .u8 240, .int .u8 240, .int .u8 240, .int .u8 240, .int .u8 240, .int .u8 240, .int .u8 240, .int .u8 240, .int .u8 240, .int .u8 240, .int .u8 240, .int .u8 240, .int .u8 240, .int .u8 240, .int .u8 240, .int .u8 240, .int .u8 240, .int .u8 240, .int .u8 240, .int .u8 240, .int .u8 240, .int .u8 240, .int .u8 240, .int .u8 240, .int .u8 240, .int .u8 240, .int .u8 240, .int .u8 240, .int .u8 240, .int .u8 240, .int .u8 240, .int .u8 240, .int .u8 240, .int .u8 240, .int .u8 240, .int .u8 240, .int .u8 240, .int .u8 240, .int .u8 240, .int .u8 240, .int .u8 240, .int .u8 240, .int .u8 240, .int .u8 240, .int .u8 240, .int .u8 240, .int .u8 240, .int .u8 240, .int .u8 240, .int .u8 240, .int .u8 241, .int .u8 241, .int .u8 241, .int .u8 241, .int .u8 241, .int .u8 241, .int .u8 241, .int .u8 241, .int .u8 241, .int .u8 241, .int .u8 241, .int .u8 241, .int .u8 241, .int .u8 241, .int .u8 241, .int .u8 241, .int .u8 241, .int .u8 241, .int .u8 241, .int .u8 241, .int .u8 241, .int .u8 241, .int .u8 241, .int .u8 241, .int .u8 241, .int .u8 241, .int .u8 241, .int .u8 241, .int .u8 241, .int .u8 241, .int .u8 241, .int .u8 241, .int .u8 241, .int .u8 241, .int .u8 241, .int .u8 241, .int .u8 241, .int .u8 241, .int .u8 241, .int .u8 241, .int .u8 241, .int .u8 241, .int .u8 241, .int .u8 241, .int .u8 241, .int .u8 241, .int .u8 241, .int .u8 241, .int .u8 241, .int .u8 241, .int .u8 241, .int .u8 241, .int .u8 241, .int .u8 241, .int .u8 241, .int .u8 241, .int .u8 241, .int .u8 241, .int .u8 241, .int .u8 241, .int .u8 241, .int .u8 241, .int .u8 241, .int .u8 241, .int .u8 241, .int .u8 241, .int .u8 2, .int .u8 2, .int .u8 2, .int .u8 2, .int .u8 2, .int .u8 2, .int .u8 2, .int .u8 2, .int .u8 2, .int .u8 2, .int .u8 2, .int .u8 2, .int .u8 2, .int .u8 2, .int .u8 2, .int .u8 2, .int .u8 2, .int .u8 2, .int .u8 2, .int .u8 2, .int .u8 2, .int .u8 2, .int .u8 2, .int .u8 2, .int .u8 2, .int .u8 2, .int .u8 2, .int .u8 2, .int .u8 2, .int .u8 2, .int .u8 19, .int .u8 3, .int .u8 3, .int .u8 3, .int .u8 3, .int .u8 3, .int .u8 3, .int .u8 3, .int .u8 3, .int .u8 3, .int .u8 3, .int .u8 3, .int .u8 3, .int .u8 35, .int .u8 3, .int .u8 3, .int .u8 52, .int .u8 4, .int .u8 4, .int .u8 4, .int .u8 68, .int .u8 241, .int .u8 241, .int .u8 241, .int .u8 241, .int .u8 241, .int .u8 241, .int .u8 241, .int .u8 241, .int .u8 241, .int .u8 241, .int .u8 241]), (4, [.int .u8 128, .int .u8 191, .int .u8 160, .int .u8 191, .int .u8 128, .int .u8 159, .int .u8 144, .int .u8 191, .int .u8 128, .int .u8 143, .int .u8 0, .int .u8 0, .int .u8 0, .int .u8 0, .int .u8 0, .int .u8 0, .int .u8 0, .int .u8 0, .int .u8 0, .int .u8 0, .int .u8 0, .int .u8 0, .int .u8 0, .int .u8 0, .int .u8 0, .int .u8 0, .int .u8 0, .int .u8 0, .int .u8 0, .int .u8 0, .int .u8 0, .int .u8 0]), (1, [.unk]), (2, [.unk])]
abbrev extsJ : List (Nat × Ext) := exts
theorem extsJ_ok : ∀ p ∈ extsJ, ExtOne Tryd.prog Tryd.prog.globals.size p.1 p.2 := exts_ok
theorem gs_ok : gs.all (fun p => and (p.2.all plainC) (decide (p.1 < Tryd.prog.globals.size))) = true := by kernel_rfl
abbrev extsM : List (Nat × Ext) := extsJ
theorem extsM_ok : ∀ p ∈ extsM, ExtOne Tryd.prog Tryd.prog.globals.size p.1 p.2 := extsJ_ok
/-- what each law asks besides is reckoned once -/
theorem known_run : valOf (runF (envOf Tryd.prog extsM kps) 20 (200 + 1) 7 [] (st0 gs Tryd.prog.globals.size)) = some (.bool true) := by kernel_rfl
theorem known_ok : ExtOne Tryd.prog Tryd.prog.globals.size 7 (.const (.bool true) gs) :=
  ext_const any_ok types_ok fns_ok extsM_ok gs gs_ok (by kernel_rfl) rfl known_run
abbrev extsK : List (Nat × Ext) := (7, .const (.bool true) gs) :: extsM
theorem extsK_ok : ∀ p ∈ extsK, ExtOne Tryd.prog Tryd.prog.globals.size p.1 p.2 := by
  intro p hp
  rcases List.mem_cons.1 hp with rfl | hp
  · exact known_ok
  · exact extsM_ok p hp
abbrev Yes (f : Nat) (vals : Array Value) (w : World) : Prop := Calls Tryd.prog f vals w (fun e w' => e = .returned (.bool true) ∧ w.keptBut w' (fun _ => False) ∧ w.heap.size ≤ w'.heap.size)
end Nk
