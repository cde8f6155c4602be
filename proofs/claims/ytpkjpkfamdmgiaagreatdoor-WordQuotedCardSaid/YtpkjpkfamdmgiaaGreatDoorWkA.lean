/-
  What the evaluator asks of this program: the functions, what is kept of each, and the closed facts; the outer functions' contracts.
-/
import Derived.Test.YtpkjpkfamdmgiaaGreatDoorEwH
import Derived.Test.YtpkjpkfamdmgiaaGreatDoorEwH
import Derived.Test.YtpkjpkfamdmgiaaGreatDoorEwH
import Derived.Test.YtpkjpkfamdmgiaaGreatDoorProg
import Derived.Test.YtpkjpkfamdmgiaaGreatDoorChecked
import Derived.ProofKit
import Derived.Shelf.Strconv.Clone
namespace Wk
open Go Go.Proofs Ev
def kps : List (Nat × Nat) := [(2, 1), (3, 2545514212866568930011444871165), (4, 18455821641845442045), (5, 595211550933283233583), (6, 8509), (7, 138551263), (8, 262301), (9, 16782067), (10, 34361852221), (11, 2101791), (12, 8883), (13, 9079560881359), (14, 1143), (15, 4362340671), (16, 140255), (17, 5106763693), (18, 306454195), (19, 1749264367289035171708899643817954783229), (20, 33624031), (21, 66029), (22, 133309), (23, 5), (24, 536872055), (25, 8883), (26, 328798010323503075), (27, 65537), (28, 1027), (29, 1052339), (30, 17367851), (31, 21), (32, 2427296444252632621537139), (33, 8589967997), (34, 35184440246557), (35, 311289657317926928839), (36, 3), (37, 25297389), (38, 65549), (39, 17247044619), (40, 151032928622260356155), (41, 2147570675), (42, 3), (43, 4103), (44, 147), (45, 16813), (46, 5), (47, 147), (48, 2199), (49, 23), (50, 4612251215020427773), (51, 575), (52, 2097171), (53, 4503599665643571), (54, 2362336198176206356935), (55, 11975125454684370502415), (56, 18014415689352647), (57, 8594391053), (58, 29), (59, 24573), (60, 1157568319969494003), (61, 21), (62, 109), (63, 2398076729582254327931), (64, 17731839820027), (65, 297458254365183180859), (66, 295517), (67, 129), (68, 19352258135594232244089331), (69, 1125904336552947), (70, 65971), (71, 1134705135126013), (72, 147), (73, 15), (74, 23134623455382676475729629221319), (75, 333266374640146493), (76, 5), (77, 5), (78, 268435509), (79, 24859446678980235670963), (80, 135299293), (81, 4343), (82, 65853), (83, 4151), (84, 21), (85, 16719), (86, 18890845), (87, 135270227), (88, 77611434099), (89, 17597), (90, 33555063), (91, 13), (92, 675365106681885568251890028412666823), (93, 5), (94, 8301), (95, 393203), (96, 316912650057057350528795147295), (97, 133165), (98, 65971), (99, 4295051789), (100, 2165441117), (101, 229), (102, 17047587), (103, 278707), (104, 12421), (105, 5), (106, 21), (107, 2279), (108, 7), (109, 4722367476828156729213), (110, 1121071012895), (111, 2343), (112, 1074307543), (113, 18890845), (114, 147), (115, 83), (116, 317), (117, 2131), (118, 135539), (119, 147), (120, 8397255), (121, 65971), (122, 15), (123, 115), (124, 5), (125, 5), (126, 5), (127, 5), (128, 165), (129, 21), (130, 1025), (131, 33825299), (132, 70369817931719), (133, 1327), (134, 1395), (135, 539168711), (136, 1171), (137, 1171), (138, 43591), (139, 43591), (140, 133), (141, 133), (142, 133), (143, 10217992290702300886440887239), (144, 599563828219485437), (145, 8531), (146, 19), (147, 147), (148, 147), (149, 5), (150, 5), (153, 5), (154, 187072209581261271206726987124361732537557266448327), (155, 201005), (156, 37), (158, 579), (159, 33075), (160, 5), (161, 51), (162, 37), (163, 61447984286128824476406153834618308375617927833625690099), (164, 174224577096382171037739960777314905735155), (165, 5), (166, 1218370562159455504433341), (167, 10371), (168, 147), (169, 1037), (170, 5), (172, 147), (173, 8796093163507), (174, 45), (176, 8391165), (207, 1536)]

set_option maxRecDepth 1000000
theorem types_ok : typesOk Tryz.prog = true := by kernel_rfl
theorem fns_ok : kps.all (fun p => fnOk Tryz.prog p.1) = true := by kernel_rfl
theorem any_ok : Tryz.prog.follows .mixedOrders = true := by kernel_rfl
theorem ib_ok : ExtOne Tryz.prog Tryz.prog.globals.size 175 .indexByte :=
  ext_indexByte Tryz.func175 (by kernel_rfl) (by kernel_rfl) (by kernel_rfl) (by kernel_rfl)
def ren : Go.Shelf.Ren := ⟨fun _ => 155, fun n => bif n == 5 then 5 else bif n == 9 then 9 else bif n == 3 then 3 else bif n == 4 then 4 else bif n == 37 then 162 else bif n == 127 then 196 else 0, fun n => n⟩
theorem clone_lays : LaysM.n316 Tryz.prog ren where
  mixed := any_ok
  f316 := by kernel_rfl
  t0 := by kernel_rfl
  a0 := fun w => by kernel_rfl
  z0 := fun w => by kernel_rfl
  v0 := fun w => by kernel_rfl
  i0 := by kernel_rfl
  t3 := by kernel_rfl
  a3 := fun w => by kernel_rfl
  z3 := fun w => by kernel_rfl
  v3 := fun w => by kernel_rfl
  i3 := by kernel_rfl
  t4 := by kernel_rfl
  a4 := fun w => by kernel_rfl
  z4 := fun w => by kernel_rfl
  v4 := fun w => by kernel_rfl
  i4 := by kernel_rfl
  t5 := by kernel_rfl
  a5 := fun w => by kernel_rfl
  z5 := fun w => by kernel_rfl
  v5 := fun w => by kernel_rfl
  i5 := by kernel_rfl
  t9 := by kernel_rfl
  a9 := fun w => by kernel_rfl
  z9 := fun w => by kernel_rfl
  v9 := fun w => by kernel_rfl
  i9 := by kernel_rfl
  t37 := by kernel_rfl
  a37 := fun w => by kernel_rfl
  z37 := fun w => by kernel_rfl
  v37 := fun w => by kernel_rfl
  i37 := by kernel_rfl
  t127 := by kernel_rfl
  a127 := fun w => by kernel_rfl
  z127 := fun w => by kernel_rfl
  v127 := fun w => by kernel_rfl
  i127 := by kernel_rfl
theorem clone_ok : ExtOne Tryz.prog Tryz.prog.globals.size 155 .same :=
  ext_clone (Go.Proofs.enters_of clone_lays.f316 (by kernel_rfl) rfl) (fun s w h => Any.stringslite_Clone clone_lays s w h)
abbrev exts : List (Nat × Ext) := [(175, .indexByte), (155, .same)]
theorem exts_ok : ∀ p ∈ exts, ExtOne Tryz.prog Tryz.prog.globals.size p.1 p.2 := by
  intro p hp
  rcases List.mem_cons.1 hp with rfl | hp
  · exact ib_ok
  · rw [List.mem_singleton] at hp
    subst hp
    exact clone_ok
abbrev gs : List (Nat × List C) := [(0, [.int .u8 240, .int .u8 240, .int .u8 240, .int .u8 240, .int .u8 240, .int .u8 240, .int .u8 240, .int .u8 240, .int .u8 240, .int .u8 240, .int .u8 240, .int .u8 240, .int .u8 240, .int .u8 240, .int .u8 240, .int .u8 240, .int .u8 240, .int .u8 240, .int .u8 240, .int .u8 240, .int .u8 240, .int .u8 240, .int .u8 240, .int .u8 240, .int .u8 240, .int .u8 240, .int .u8 240, .int .u8 240, .int .u8 240, .int .u8 240, .int .u8 240, .int .u8 240, .int .u8 240, .int .u8 240, .int .u8 240, .int .u8 240, .int .u8 240, .int .u8 240, .int .u8 240, .int .u8 240, .int .u8 240, .int .u8 240, .int .u8 240, .int .u8 240, .int .u8 240, .int .u8 240, .int .u8 240, .int .u8 240, .int .u8 240, .int .u8 240, .int .u8 240, .int .u8 240, .int .u8 240, .int .u8 240, .int .u8 240, .int .u8 240, .int .u8 240, .int .u8 240, .int .u8 240, .int .u8 240, .int .u8 240, .int .u8 240, .int .u8 240, .int .u8 240, .int .u8 240, .int .u8 240, .int .u8 240, .int .u8 240, .int .u8 240, .int .u8 240, .int .u8 240, .int .u8 240, .int .u8 240, .int .u8 240, .int .u8 240, .int .u8 240, .int .u8 240, .int .u8 240, .int .u8 240, .int .u8 240, .int .u8 240, .int .u8 240, .int .u8 240, .int .u8 240, .int .u8 240, .int .u8 240, .int .u8 240, .int .u8 240, .int .u8 240, .int .u8 240, .int .u8 240, .int .u8 240, .int .u8 240, .int .u8 240, .int .u8 240, .int .u8 240, .int .u8 240, .int .u8 240, .int .u8 240, .int .u8 240, .int .u8 240, .int .u8 240, .int .u8 240, .int .u8 240, .int .u8 240, .int .u8 240, .int .u8 240, .int .u8 240, .int .u8 240, .int .u8 240, .int .u8 240, .int .u8 240, .int .u8 240, .int .u8 240, .int .u8 240, .int .u8 240, .int .u8 240, .int .u8 240, .int .u8 240, .int .u8 240, .int .u8 240, .int .u8 240, .int .u8 240, .int .u8 240, .int .u8 240, .int .u8 240, .int .u8 240, .int .u8 240, .int .u8 241, .int .u8 241, .int .u8 241, .int .u8 241, .int .u8 241, .int .u8 241, .int .u8 241, .int .u8 241, .int .u8 241, .int .u8 241, .int .u8 241, .int .u8 241, .int .u8 241, .int .u8 241, .int .u8 241, .int .u8 241, .int .u8 241, .int .u8 241, .int .u8 241, .int .u8 241, .int .u8 241, .int .u8 241, .int .u8 241, .int .u8 241, .int .u8 241, .int .u8 241, .int .u8 241, .int .u8 241, .int .u8 241, .int .u8 241, .int .u8 241, .int .u8 241, .int .u8 241, .int .u8 241, .int .u8 241, .int .u8 241, .int .u8 241, .int .u8 241, .int .u8 241, .int .u8 241, .int .u8 241, .int .u8 241, .int .u8 241, .int .u8 241, .int .u8 241, .int .u8 241, .int .u8 241, .int .u8 241, .int .u8 241, .int .u8 241, .int .u8 241, .int .u8 241, .int .u8 241, .int .u8 241, .int .u8 241, .int .u8 241, .int .u8 241, .int .u8 241, .int .u8 241, .int .u8 241, .int .u8 241, .int .u8 241, .int .u8 241, .int .u8 241, .int .u8 241, .int .u8 241, .int .u8 2, .int .u8 2, .int .u8 2, .int .u8 2, .int .u8 2, .int .u8 2, .int .u8 2, .int .u8 2, .int .u8 2, .int .u8 2, .int .u8 2, .int .u8 2, .int .u8 2, .int .u8 2, .int .u8 2, .int .u8 2, .int .u8 2, .int .u8 2, .int .u8 2, .int .u8 2, .int .u8 2, .int .u8 2, .int .u8 2, .int .u8 2, .int .u8 2, .int .u8 2, .int .u8 2, .int .u8 2, .int .u8 2, .int .u8 2, .int .u8 19, .int .u8 3, .int .u8 3, .int .u8 3, .int .u8 3, .int .u8 3, .int .u8 3, .int .u8 3, .int .u8 3, .int .u8 3, .int .u8 3, .int .u8 3, .int .u8 3, .int .u8 35, .int .u8 3, .int .u8 3, .int .u8 52, .int .u8 4, .int .u8 4, .int .u8 4, .int .u8 68, .int .u8 241, .int .u8 241, .int .u8 241, .int .u8 241, .int .u8 241, .int .u8 241, .int .u8 241, .int .u8 241, .int .u8 241, .int .u8 241, .int .u8 241]), (1, [.int .u8 128, .int .u8 191, .int .u8 160, .int .u8 191, .int .u8 128, .int .u8 159, .int .u8 144, .int .u8 191, .int .u8 128, .int .u8 143, .int .u8 0, .int .u8 0, .int .u8 0, .int .u8 0, .int .u8 0, .int .u8 0, .int .u8 0, .int .u8 0, .int .u8 0, .int .u8 0, .int .u8 0, .int .u8 0, .int .u8 0, .int .u8 0, .int .u8 0, .int .u8 0, .int .u8 0, .int .u8 0, .int .u8 0, .int .u8 0, .int .u8 0, .int .u8 0]), (3, [.unk]), (4, [.unk])]
abbrev extsJ : List (Nat × Ext) := exts
theorem extsJ_ok : ∀ p ∈ extsJ, ExtOne Tryz.prog Tryz.prog.globals.size p.1 p.2 := exts_ok
theorem gs_ok : gs.all (fun p => and (p.2.all plainC) (decide (p.1 < Tryz.prog.globals.size))) = true := by kernel_rfl
abbrev extsM : List (Nat × Ext) := extsJ
theorem extsM_ok : ∀ p ∈ extsM, ExtOne Tryz.prog Tryz.prog.globals.size p.1 p.2 := extsJ_ok
theorem known_run : valOf (runF (envOf Tryz.prog extsM kps) 20 (200 + 1) 11 [] (st0 gs Tryz.prog.globals.size)) = some (.bool true) := by kernel_rfl
theorem known_ok : ExtOne Tryz.prog Tryz.prog.globals.size 11 (.const (.bool true) gs) :=
  ext_const any_ok types_ok fns_ok extsM_ok gs gs_ok (by kernel_rfl) rfl known_run
abbrev extsK : List (Nat × Ext) := (11, .const (.bool true) gs) :: extsM
theorem extsK_ok : ∀ p ∈ extsK, ExtOne Tryz.prog Tryz.prog.globals.size p.1 p.2 := by
  intro p hp
  rcases List.mem_cons.1 hp with rfl | hp
  · exact known_ok
  · exact extsM_ok p hp
abbrev Yes (f : Nat) (vals : Array Value) (w : World) : Prop := Calls Tryz.prog f vals w (fun e w' => e = .returned (.bool true) ∧ w.keptBut w' (fun _ => False) ∧ w.heap.size ≤ w'.heap.size)
end Wk
