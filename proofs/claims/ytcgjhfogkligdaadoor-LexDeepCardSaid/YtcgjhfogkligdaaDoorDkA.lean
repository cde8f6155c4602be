/-
  The door's laws: the function numbers and what is kept of each function; the closed facts that the evaluator asks for.
-/
import Derived.Test.YtcgjhfogkligdaaDoorEvZg
import Derived.Test.YtcgjhfogkligdaaDoorProg
import Derived.Test.YtcgjhfogkligdaaDoorChecked
import Derived.ProofKit
import Derived.Shelf.Strconv.Clone
namespace Dk
open Go Go.Proofs Ev
def kps : List (Nat × Nat) := [(2, 1), (3, 348175376934795119470230269), (4, 332306998985065857759598289654710259), (5, 580544286950387), (6, 70369012678909), (7, 19), (8, 6198111638817934969853), (9, 302231454903657293685427), (10, 274880004191), (11, 1749264367289035171708899643817954783229), (12, 147573952589676421811), (13, 2147570675), (14, 4383), (15, 4297066237), (16, 16813), (17, 35913865), (18, 310647989), (19, 165), (20, 8589967997), (21, 35184440246557), (22, 311289657317926928839), (23, 3), (24, 295517), (25, 129), (26, 19352258135594232244089331), (27, 17597), (28, 65549), (29, 2053), (30, 1), (31, 33075), (32, 2951696926844192556487), (33, 21), (34, 262147), (35, 2097171), (36, 4503599665643571), (37, 2362336198176206356935), (38, 11975125454684370502415), (39, 18014415689352647), (40, 8594391053), (41, 29), (42, 18890845), (43, 135270227), (44, 77611434099), (45, 33555063), (46, 13), (47, 675365106681885568251890028412666823), (48, 147), (49, 147), (50, 8397255), (51, 24573), (52, 328755), (53, 720575940379281479), (54, 557), (55, 43980467339283), (56, 2868407364108295), (57, 38334933606741442831), (58, 147), (59, 23134623455382676475729629221319), (60, 333266374640146493), (61, 5), (62, 5), (63, 268435509), (64, 18890845), (65, 83), (66, 317), (67, 2131), (68, 135539), (69, 65971), (70, 15), (71, 115), (72, 8531), (73, 147), (74, 539168711), (75, 1121071012895), (76, 547), (77, 17342483), (78, 2729860521518325854970055), (79, 36893840277097169395), (80, 3437), (81, 61447984286128824476406153834618308375617927833625690099), (82, 4295051789), (83, 2165441117), (84, 229), (85, 599563828219485437), (86, 19), (87, 174224577096382171037739960777314905735155), (88, 187072209581261271206726987124361732537557266448327), (89, 1171), (90, 1171), (91, 43591), (92, 43591), (93, 5), (94, 19327355933), (95, 138544083), (96, 21), (97, 149), (98, 147), (99, 1037), (100, 5), (102, 21), (103, 133309), (104, 33075), (105, 5), (106, 51), (107, 37), (108, 21), (109, 135299293), (110, 147), (111, 8796093163507), (112, 5), (113, 1218370562159455504433341), (114, 201005), (115, 37), (116, 21), (117, 109), (119, 8391165), (120, 21), (121, 1125904336552947), (122, 5), (123, 8301), (124, 393203), (125, 316912650057057350528795147295), (126, 5), (127, 5), (128, 5), (129, 5), (130, 165), (131, 5), (132, 5), (162, 1536)]

set_option maxRecDepth 1000000
theorem types_ok : typesOk Tryd.prog = true := by kernel_rfl
theorem fns_ok : kps.all (fun p => fnOk Tryd.prog p.1) = true := by kernel_rfl
theorem any_ok : Tryd.prog.follows .mixedOrders = true := by kernel_rfl
theorem ib_ok : ExtOne Tryd.prog Tryd.prog.globals.size 118 .indexByte :=
  ext_indexByte Tryd.func118 (by kernel_rfl) (by kernel_rfl) (by kernel_rfl) (by kernel_rfl)
/-- internal/stringslite.Clone, by the library's contract -/
def ren : Go.Shelf.Ren := ⟨fun _ => 114, fun n => bif n == 5 then 5 else bif n == 9 then 9 else bif n == 3 then 3 else bif n == 4 then 4 else bif n == 37 then 143 else bif n == 127 then 151 else 0, fun n => n⟩
theorem clone_lays : LaysM.n316 Tryd.prog ren where
  mixed := any_ok
  f316 := by kernel_rfl
  t0 := by kernel_rfl
  a0 := fun w => by kernel_rfl
  z0 := fun w => by kernel_rfl
  v0 := fun w => by kernel_rfl
  i0 := by kernel_rfl
  t3 := by kernel_rfl
  a3 := fun w => by kernel_rfl
  z3 := fun w => by kernel_rfl
  v3 := fun w => by kernel_rfl
  i3 := by kernel_rfl
  t4 := by kernel_rfl
  a4 := fun w => by kernel_rfl
  z4 := fun w => by kernel_rfl
  v4 := fun w => by kernel_rfl
  i4 := by kernel_rfl
  t5 := by kernel_rfl
  a5 := fun w => by kernel_rfl
  z5 := fun w => by kernel_rfl
  v5 := fun w => by kernel_rfl
  i5 := by kernel_rfl
  t9 := by kernel_rfl
  a9 := fun w => by kernel_rfl
  z9 := fun w => by kernel_rfl
  v9 := fun w => by kernel_rfl
  i9 := by kernel_rfl
  t37 := by kernel_rfl
  a37 := fun w => by kernel_rfl
  z37 := fun w => by kernel_rfl
  v37 := fun w => by kernel_rfl
  i37 := by kernel_rfl
  t127 := by kernel_rfl
  a127 := fun w => by kernel_rfl
  z127 := fun w => by kernel_rfl
  v127 := fun w => by kernel_rfl
  i127 := by kernel_rfl
theorem clone_ok : ExtOne Tryd.prog Tryd.prog.globals.size 114 .same :=
  ext_clone (Go.Proofs.enters_of clone_lays.f316 (by kernel_rfl) rfl) (fun s w h => Any.stringslite_Clone clone_lays s w h)

abbrev exts : List (Nat × Ext) := [(118, .indexByte), (114, .same)]
theorem exts_ok : ∀ p ∈ exts, ExtOne Tryd.prog Tryd.prog.globals.size p.1 p.2 := by
  intro p hp
  rcases List.mem_cons.1 hp with rfl | hp
  · exact ib_ok
  · rw [List.mem_singleton] at hp
    subst hp
    exact clone_ok
abbrev gsErr : List (Nat × List C) := [(3, [.unk]), (4, [.unk])]
end Dk
