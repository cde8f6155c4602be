/-
  What the evaluator asks of this program: the functions, what is kept of each, and the closed facts; the outer functions' contracts.
-/
import Derived.Test.YtaapmoclinjefaaDoorEwH
import Derived.Test.YtaapmoclinjefaaDoorEwH
import Derived.Test.YtaapmoclinjefaaDoorProg
import Derived.Test.YtaapmoclinjefaaDoorChecked
import Derived.ProofKit
import Derived.Shelf.Strconv.Clone
namespace Ak
open Go Go.Proofs Ev
def kps : List (Nat × Nat) := [(2, 1), (3, 274946082291), (4, 81129638414606686344666438189043), (5, 18446744349665466355), (6, 2147570675), (7, 17725171955), (8, 4383), (9, 17413), (10, 295517), (11, 129), (12, 19352258135594232244089331), (13, 11656375506135405), (14, 2199040034821), (15, 17597), (16, 16397), (17, 18890845), (18, 135270227), (19, 77611434099), (20, 33555063), (21, 13), (22, 675365106681885568251890028412666823), (23, 6480557), (24, 4504699147518035), (25, 5), (26, 5), (27, 147), (28, 147), (29, 8397255), (30, 18890845), (31, 83), (32, 317), (33, 2131), (34, 135539), (35, 65971), (36, 15), (37, 115), (38, 1659036333), (39, 71), (40, 71), (41, 8531), (42, 147), (43, 539168711), (44, 1121071012895), (45, 599563828219485437), (46, 19), (47, 65549), (48, 147), (49, 3065014465759368977879497220083123194668484629275272701), (50, 199), (51, 524559), (52, 174224577096382171037739960777314905735155), (53, 187072209581261271206726987124361732537557266448327), (54, 1171), (55, 1171), (56, 43591), (57, 43591), (58, 33075), (59, 5), (60, 51), (61, 37), (62, 21), (63, 135299293), (64, 24573), (65, 61447984286128824476406153834618308375617927833625690099), (66, 4690104811709), (67, 21), (68, 2165441117), (69, 35184372097267), (70, 147), (72, 5), (73, 8796093163507), (74, 5), (75, 1218370562159455504433341), (76, 201005), (77, 37), (78, 21), (79, 5), (80, 109), (81, 147), (82, 1037), (83, 637), (84, 637), (85, 5), (86, 133309), (88, 8391165), (89, 21), (90, 1125904336552947), (91, 5), (92, 8301), (93, 393203), (94, 316912650057057350528795147295), (95, 5), (96, 5), (97, 5), (98, 5), (99, 165), (100, 5), (101, 5), (131, 1536)]

set_option maxRecDepth 1000000
theorem types_ok : typesOk Tryd.prog = true := by kernel_rfl
theorem fns_ok : kps.all (fun p => fnOk Tryd.prog p.1) = true := by kernel_rfl
theorem any_ok : Tryd.prog.follows .mixedOrders = true := by kernel_rfl
theorem ib_ok : ExtOne Tryd.prog Tryd.prog.globals.size 87 .indexByte :=
  ext_indexByte Tryd.func87 (by kernel_rfl) (by kernel_rfl) (by kernel_rfl) (by kernel_rfl)
def ren : Go.Shelf.Ren := ⟨fun _ => 76, fun n => bif n == 5 then 5 else bif n == 9 then 9 else bif n == 3 then 3 else bif n == 4 then 4 else bif n == 37 then 65 else bif n == 127 then 113 else 0, fun n => n⟩
theorem clone_lays : LaysM.n316 Tryd.prog ren where
  mixed := any_ok
  f316 := by kernel_rfl
  t0 := by kernel_rfl
  a0 := fun w => by kernel_rfl
  z0 := fun w => by kernel_rfl
  v0 := fun w => by kernel_rfl
  i0 := by kernel_rfl
  t3 := by kernel_rfl
  a3 := fun w => by kernel_rfl
  z3 := fun w => by kernel_rfl
  v3 := fun w => by kernel_rfl
  i3 := by kernel_rfl
  t4 := by kernel_rfl
  a4 := fun w => by kernel_rfl
  z4 := fun w => by kernel_rfl
  v4 := fun w => by kernel_rfl
  i4 := by kernel_rfl
  t5 := by kernel_rfl
  a5 := fun w => by kernel_rfl
  z5 := fun w => by kernel_rfl
  v5 := fun w => by kernel_rfl
  i5 := by kernel_rfl
  t9 := by kernel_rfl
  a9 := fun w => by kernel_rfl
  z9 := fun w => by kernel_rfl
  v9 := fun w => by kernel_rfl
  i9 := by kernel_rfl
  t37 := by kernel_rfl
  a37 := fun w => by kernel_rfl
  z37 := fun w => by kernel_rfl
  v37 := fun w => by kernel_rfl
  i37 := by kernel_rfl
  t127 := by kernel_rfl
  a127 := fun w => by kernel_rfl
  z127 := fun w => by kernel_rfl
  v127 := fun w => by kernel_rfl
  i127 := by kernel_rfl
theorem clone_ok : ExtOne Tryd.prog Tryd.prog.globals.size 76 .same :=
  ext_clone (Go.Proofs.enters_of clone_lays.f316 (by kernel_rfl) rfl) (fun s w h => Any.stringslite_Clone clone_lays s w h)
abbrev exts : List (Nat × Ext) := [(87, .indexByte), (76, .same)]
theorem exts_ok : ∀ p ∈ exts, ExtOne Tryd.prog Tryd.prog.globals.size p.1 p.2 := by
  intro p hp
  rcases List.mem_cons.1 hp with rfl | hp
  · exact ib_ok
  · rw [List.mem_singleton] at hp
    subst hp
    exact clone_ok
abbrev gs : List (Nat × List C) := [(3, [.int .u8 240, .int .u8 240, .int .u8 240, .int .u8 240, .int .u8 240, .int .u8 240, .int .u8 240, .int .u8 240, .int .u8 240, .int .u8 240, .int .u8 240, .int .u8 240, .int .u8 240, .int .u8 240, .int .u8 240, .int .u8 240, .int .u8 240, .int .u8 240, .int .u8 240, .int .u8 240, .int .u8 240, .int .u8 240, .int .u8 240, .int .u8 240, .int .u8 240, .int .u8 240, .int .u8 240, .int .u8 240, .int .u8 240, .int .u8 240, .int .u8 240, .int .u8 240, .int .u8 240, .int .u8 240, .int .u8 240, .int .u8 240, .int .u8 240, .int .u8 240, .int .u8 240, .int .u8 240, .int .u8 240, .int .u8 240, .int .u8 240, .int .u8 240, .int .u8 240, .int .u8 240, .int .u8 240, .int .u8 240, .int .u8 240, .int .u8 240, .int .u8 240, .int .u8 240, .int .u8 240, .int .u8 240, .int .u8 240, .int .u8 240, .int .u8 240, .int .u8 240, .int .u8 240, .int .u8 240, .int .u8 240, .int .u8 240, .int .u8 240, .int .u8 240, .int .u8 240, .int .u8 240, .int .u8 240, .int .u8 240, .int .u8 240, .int .u8 240, .int .u8 240, .int .u8 240, .int .u8 240, .int .u8 240, .int .u8 240, .int .u8 240, .int .u8 240, .int .u8 240, .int .u8 240, .int .u8 240, .int .u8 240, .int .u8 240, .int .u8 240, .int .u8 240, .int .u8 240, .int .u8 240, .int .u8 240, .int .u8 240, .int .u8 240, .int .u8 240, .int .u8 240, .int .u8 240, .int .u8 240, .int .u8 240, .int .u8 240, .int .u8 240, .int .u8 240, .int .u8 240, .int .u8 240, .int .u8 240, .int .u8 240, .int .u8 240, .int .u8 240, .int .u8 240, .int .u8 240, .int .u8 240, .int .u8 240, .int .u8 240, .int .u8 240, .int .u8 240, .int .u8 240, .int .u8 240, .int .u8 240, .int .u8 240, .int .u8 240, .int .u8 240, .int .u8 240, .int .u8 240, .int .u8 240, .int .u8 240, .int .u8 240, .int .u8 240, .int .u8 240, .int .u8 240, .int .u8 240, .int .u8 240, .int .u8 240, .int .u8 240, .int .u8 241, .int .u8 241, .int .u8 241, .int .u8 241, .int .u8 241, .int .u8 241, .int .u8 241, .int .u8 241, .int .u8 241, .int .u8 241, .int .u8 241, .int .u8 241, .int .u8 241, .int .u8 241, .int .u8 241, .int .u8 241, .int .u8 241, .int .u8 241, .int .u8 241, .int .u8 241, .int .u8 241, .int .u8 241, .int .u8 241, .int .u8 241, .int .u8 241, .int .u8 241, .int .u8 241, .int .u8 241, .int .u8 241, .int .u8 241, .int .u8 241, .int .u8 241, .int .u8 241, .int .u8 241, .int .u8 241, .int .u8 241, .int .u8 241, .int .u8 241, .int .u8 241, .int .u8 241, .int .u8 241, .int .u8 241, .int .u8 241, .int .u8 241, .int .u8 241, .int .u8 241, .int .u8 241, .int .u8 241, .int .u8 241, .int .u8 241, .int .u8 241, .int .u8 241, .int .u8 241, .int .u8 241, .int .u8 241, .int .u8 241, .int .u8 241, .int .u8 241, .int .u8 241, .int .u8 241, .int .u8 241, .int .u8 241, .int .u8 241, .int .u8 241, .int .u8 241, .int .u8 241, .int .u8 2, .int .u8 2, .int .u8 2, .int .u8 2, .int .u8 2, .int .u8 2, .int .u8 2, .int .u8 2, .int .u8 2, .int .u8 2, .int .u8 2, .int .u8 2, .int .u8 2, .int .u8 2, .int .u8 2, .int .u8 2, .int .u8 2, .int .u8 2, .int .u8 2, .int .u8 2, .int .u8 2, .int .u8 2, .int .u8 2, .int .u8 2, .int .u8 2, .int .u8 2, .int .u8 2, .int .u8 2, .int .u8 2, .int .u8 2, .int .u8 19, .int .u8 3, .int .u8 3, .int .u8 3, .int .u8 3, .int .u8 3, .int .u8 3, .int .u8 3, .int .u8 3, .int .u8 3, .int .u8 3, .int .u8 3, .int .u8 3, .int .u8 35, .int .u8 3, .int .u8 3, .int .u8 52, .int .u8 4, .int .u8 4, .int .u8 4, .int .u8 68, .int .u8 241, .int .u8 241, .int .u8 241, .int .u8 241, .int .u8 241, .int .u8 241, .int .u8 241, .int .u8 241, .int .u8 241, .int .u8 241, .int .u8 241]), (4, [.int .u8 128, .int .u8 191, .int .u8 160, .int .u8 191, .int .u8 128, .int .u8 159, .int .u8 144, .int .u8 191, .int .u8 128, .int .u8 143, .int .u8 0, .int .u8 0, .int .u8 0, .int .u8 0, .int .u8 0, .int .u8 0, .int .u8 0, .int .u8 0, .int .u8 0, .int .u8 0, .int .u8 0, .int .u8 0, .int .u8 0, .int .u8 0, .int .u8 0, .int .u8 0, .int .u8 0, .int .u8 0, .int .u8 0, .int .u8 0, .int .u8 0, .int .u8 0]), (1, [.unk]), (2, [.unk])]
abbrev extsJ : List (Nat × Ext) := exts
theorem extsJ_ok : ∀ p ∈ extsJ, ExtOne Tryd.prog Tryd.prog.globals.size p.1 p.2 := exts_ok
theorem gs_ok : gs.all (fun p => and (p.2.all plainC) (decide (p.1 < Tryd.prog.globals.size))) = true := by kernel_rfl
abbrev extsM : List (Nat × Ext) := extsJ
theorem extsM_ok : ∀ p ∈ extsM, ExtOne Tryd.prog Tryd.prog.globals.size p.1 p.2 := extsJ_ok
theorem known_run : valOf (runF (envOf Tryd.prog extsM kps) 20 (200 + 1) 8 [] (st0 gs Tryd.prog.globals.size)) = some (.bool true) := by kernel_rfl
theorem known_ok : ExtOne Tryd.prog Tryd.prog.globals.size 8 (.const (.bool true) gs) :=
  ext_const any_ok types_ok fns_ok extsM_ok gs gs_ok (by kernel_rfl) rfl known_run
abbrev extsK : List (Nat × Ext) := (8, .const (.bool true) gs) :: extsM
theorem extsK_ok : ∀ p ∈ extsK, ExtOne Tryd.prog Tryd.prog.globals.size p.1 p.2 := by
  intro p hp
  rcases List.mem_cons.1 hp with rfl | hp
  · exact known_ok
  · exact extsM_ok p hp
abbrev Yes (f : Nat) (vals : Array Value) (w : World) : Prop := Calls Tryd.prog f vals w (fun e w' => e = .returned (.bool true) ∧ w.keptBut w' (fun _ => False) ∧ w.heap.size ≤ w'.heap.size)
end Ak
