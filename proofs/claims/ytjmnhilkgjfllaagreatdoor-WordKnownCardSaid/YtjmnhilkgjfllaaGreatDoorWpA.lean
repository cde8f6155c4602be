/-
  What the evaluator asks of this program: the functions, what is kept of each, and the closed facts; the outer functions' contracts.
-/
import Derived.Test.YtjmnhilkgjfllaaGreatDoorEvZg
import Derived.Test.YtjmnhilkgjfllaaGreatDoorEvZl
import Derived.Test.YtjmnhilkgjfllaaGreatDoorEvZi
import Derived.Test.YtjmnhilkgjfllaaGreatDoorProg
import Derived.Test.YtjmnhilkgjfllaaGreatDoorChecked
import Derived.ProofKit
import Derived.Shelf.Strconv.Clone
import Derived.Shelf.Strings.OnBuilder
namespace Wp
open Go Go.Proofs Ev
def kps : List (Nat × Nat) := [(2, 1), (3, 2656407708357596545533), (4, 5070956552782077), (5, 10662218094400699371517), (6, 595211550933283233583), (7, 8509), (8, 8883), (9, 2101791), (10, 138551263), (11, 4362340671), (12, 140255), (13, 5106763693), (14, 306454195), (15, 1749264367289035171708899643817954783229), (16, 33624031), (17, 66029), (18, 8883), (19, 328798010323503075), (20, 65537), (21, 1027), (22, 1052339), (23, 17367851), (24, 21), (25, 2427296444252632621537139), (26, 8589967997), (27, 35184440246557), (28, 311289657317926928839), (29, 3), (30, 25297389), (31, 17247044619), (32, 151032928622260356155), (33, 2147570675), (34, 3), (35, 4103), (36, 147), (37, 16813), (38, 5), (39, 147), (40, 2199), (41, 23), (42, 4612251215020427773), (43, 575), (44, 65549), (45, 2097171), (46, 4503599665643571), (47, 2362336198176206356935), (48, 11975125454684370502415), (49, 18014415689352647), (50, 8594391053), (51, 29), (52, 1157568319969494003), (53, 21), (54, 109), (55, 2398076729582254327931), (56, 17731839820027), (57, 297458254365183180859), (58, 295517), (59, 129), (60, 19352258135594232244089331), (61, 1125904336552947), (62, 65971), (63, 1134705135126013), (64, 147), (65, 15), (66, 24573), (67, 23134623455382676475729629221319), (68, 333266374640146493), (69, 5), (70, 5), (71, 268435509), (72, 24859446678980235670963), (73, 135299293), (74, 4343), (75, 65853), (76, 4151), (77, 21), (78, 16719), (79, 18890845), (80, 135270227), (81, 77611434099), (82, 17597), (83, 33555063), (84, 13), (85, 675365106681885568251890028412666823), (86, 5), (87, 8301), (88, 393203), (89, 316912650057057350528795147295), (90, 133165), (91, 65971), (92, 4295051789), (93, 2165441117), (94, 229), (95, 17047587), (96, 278707), (97, 12421), (98, 5), (99, 21), (100, 2279), (101, 7), (102, 4722367476828156729213), (103, 1121071012895), (104, 2343), (105, 1074307543), (106, 18890845), (107, 147), (108, 83), (109, 317), (110, 2131), (111, 135539), (112, 147), (113, 8397255), (114, 65971), (115, 15), (116, 115), (117, 5), (118, 5), (119, 5), (120, 5), (121, 165), (122, 21), (123, 133309), (124, 1025), (125, 33825299), (126, 70369817931719), (127, 1327), (128, 1395), (129, 539168711), (130, 1171), (131, 1171), (132, 43591), (133, 43591), (134, 133), (135, 133), (136, 133), (137, 10217992290702300886440887239), (138, 599563828219485437), (139, 8531), (140, 19), (141, 147), (142, 147), (143, 5), (144, 5), (147, 5), (148, 187072209581261271206726987124361732537557266448327), (149, 201005), (150, 37), (152, 579), (153, 33075), (154, 5), (155, 51), (156, 37), (157, 61447984286128824476406153834618308375617927833625690099), (158, 174224577096382171037739960777314905735155), (159, 5), (160, 1218370562159455504433341), (161, 10371), (162, 147), (163, 1037), (164, 5), (166, 147), (167, 8796093163507), (168, 45), (170, 8391165), (201, 1536)]

set_option maxRecDepth 1000000
theorem types_ok : typesOk Tryz.prog = true := by kernel_rfl
theorem fns_ok : kps.all (fun p => fnOk Tryz.prog p.1) = true := by kernel_rfl
theorem any_ok : Tryz.prog.follows .mixedOrders = true := by kernel_rfl
theorem ib_ok : ExtOne Tryz.prog Tryz.prog.globals.size 169 .indexByte :=
  ext_indexByte Tryz.func169 (by kernel_rfl) (by kernel_rfl) (by kernel_rfl) (by kernel_rfl)
/-- internal/stringslite.Clone, by the library's contract -/
def ren : Go.Shelf.Ren := ⟨fun _ => 149, fun n => bif n == 5 then 5 else bif n == 9 then 9 else bif n == 3 then 3 else bif n == 4 then 4 else bif n == 37 then 158 else bif n == 127 then 196 else 0, fun n => n⟩
theorem clone_lays : LaysM.n316 Tryz.prog ren where
  mixed := any_ok
  f316 := by kernel_rfl
  t0 := by kernel_rfl
  a0 := fun w => by kernel_rfl
  z0 := fun w => by kernel_rfl
  v0 := fun w => by kernel_rfl
  i0 := by kernel_rfl
  t3 := by kernel_rfl
  a3 := fun w => by kernel_rfl
  z3 := fun w => by kernel_rfl
  v3 := fun w => by kernel_rfl
  i3 := by kernel_rfl
  t4 := by kernel_rfl
  a4 := fun w => by kernel_rfl
  z4 := fun w => by kernel_rfl
  v4 := fun w => by kernel_rfl
  i4 := by kernel_rfl
  t5 := by kernel_rfl
  a5 := fun w => by kernel_rfl
  z5 := fun w => by kernel_rfl
  v5 := fun w => by kernel_rfl
  i5 := by kernel_rfl
  t9 := by kernel_rfl
  a9 := fun w => by kernel_rfl
  z9 := fun w => by kernel_rfl
  v9 := fun w => by kernel_rfl
  i9 := by kernel_rfl
  t37 := by kernel_rfl
  a37 := fun w => by kernel_rfl
  z37 := fun w => by kernel_rfl
  v37 := fun w => by kernel_rfl
  i37 := by kernel_rfl
  t127 := by kernel_rfl
  a127 := fun w => by kernel_rfl
  z127 := fun w => by kernel_rfl
  v127 := fun w => by kernel_rfl
  i127 := by kernel_rfl
theorem clone_ok : ExtOne Tryz.prog Tryz.prog.globals.size 149 .same :=
  ext_clone (Go.Proofs.enters_of clone_lays.f316 (by kernel_rfl) rfl) (fun s w h => Any.stringslite_Clone clone_lays s w h)
abbrev exts : List (Nat × Ext) := [(169, .indexByte), (149, .same)]
theorem exts_ok : ∀ p ∈ exts, ExtOne Tryz.prog Tryz.prog.globals.size p.1 p.2 := by
  intro p hp
  rcases List.mem_cons.1 hp with rfl | hp
  · exact ib_ok
  · rw [List.mem_singleton] at hp
    subst hp
    exact clone_ok
/-- what is known of package variables -/
abbrev gs : List (Nat × List C) := [(0, [.int .u8 240, .int .u8 240, .int .u8 240, .int .u8 240, .int .u8 240, .int .u8 240, .int .u8 240, .int .u8 240, .int .u8 240, .int .u8 240, .int .u8 240, .int .u8 240, .int .u8 240, .int .u8 240, .int .u8 240, .int .u8 240, .int .u8 240, .int .u8 240, .int .u8 240, .int .u8 240, .int .u8 240, .int .u8 240, .int .u8 240, .int .u8 240, .int .u8 240, .int .u8 240, .int .u8 240, .int .u8 240, .int .u8 240, .int .u8 240, .int .u8 240, .int .u8 240, .int .u8 240, .int .u8 240, .int .u8 240, .int .u8 240, .int .u8 240, .int .u8 240, .int .u8 240, .int .u8 240, .int .u8 240, .int .u8 240, .int .u8 240, .int .u8 240, .int .u8 240, .int .u8 240, .int .u8 240, .int .u8 240, .int .u8 240, .int .u8 240, .int .u8 240, .int .u8 240, .int .u8 240, .int .u8 240, .int .u8 240, .int .u8 240, .int .u8 240, .int .u8 240, .int .u8 240, .int .u8 240, .int .u8 240, .int .u8 240, .int .u8 240, .int .u8 240, .int .u8 240, .int .u8 240, .int .u8 240, .int .u8 240, .int .u8 240, .int .u8 240, .int .u8 240, .int .u8 240, .int .u8 240, .int .u8 240, .int .u8 240, .int .u8 240, .int .u8 240, .int .u8 240, .int .u8 240, .int .u8 240, .int .u8 240, .int .u8 240, .int .u8 240, .int .u8 240, .int .u8 240, .int .u8 240, .int .u8 240, .int .u8 240, .int .u8 240, .int .u8 240, .int .u8 240, .int .u8 240, .int .u8 240, .int .u8 240, .int .u8 240, .int .u8 240, .int .u8 240, .int .u8 240, .int .u8 240, .int .u8 240, .int .u8 240, .int .u8 240, .int .u8 240, .int .u8 240, .int .u8 240, .int .u8 240, .int .u8 240, .int .u8 240, .int .u8 240, .int .u8 240, .int .u8 240, .int .u8 240, .int .u8 240, .int .u8 240, .int .u8 240, .int .u8 240, .int .u8 240, .int .u8 240, .int .u8 240, .int .u8 240, .int .u8 240, .int .u8 240, .int .u8 240, .int .u8 240, .int .u8 240, .int .u8 240, .int .u8 240, .int .u8 240, .int .u8 241, .int .u8 241, .int .u8 241, .int .u8 241, .int .u8 241, .int .u8 241, .int .u8 241, .int .u8 241, .int .u8 241, .int .u8 241, .int .u8 241, .int .u8 241, .int .u8 241, .int .u8 241, .int .u8 241, .int .u8 241, .int .u8 241, .int .u8 241, .int .u8 241, .int .u8 241, .int .u8 241, .int .u8 241, .int .u8 241, .int .u8 241, .int .u8 241, .int .u8 241, .int .u8 241, .int .u8 241, .int .u8 241, .int .u8 241, .int .u8 241, .int .u8 241, .int .u8 241, .int .u8 241, .int .u8 241, .int .u8 241, .int .u8 241, .int .u8 241, .int .u8 241, .int .u8 241, .int .u8 241, .int .u8 241, .int .u8 241, .int .u8 241, .int .u8 241, .int .u8 241, .int .u8 241, .int .u8 241, .int .u8 241, .int .u8 241, .int .u8 241, .int .u8 241, .int .u8 241, .int .u8 241, .int .u8 241, .int .u8 241, .int .u8 241, .int .u8 241, .int .u8 241, .int .u8 241, .int .u8 241, .int .u8 241, .int .u8 241, .int .u8 241, .int .u8 241, .int .u8 241, .int .u8 2, .int .u8 2, .int .u8 2, .int .u8 2, .int .u8 2, .int .u8 2, .int .u8 2, .int .u8 2, .int .u8 2, .int .u8 2, .int .u8 2, .int .u8 2, .int .u8 2, .int .u8 2, .int .u8 2, .int .u8 2, .int .u8 2, .int .u8 2, .int .u8 2, .int .u8 2, .int .u8 2, .int .u8 2, .int .u8 2, .int .u8 2, .int .u8 2, .int .u8 2, .int .u8 2, .int .u8 2, .int .u8 2, .int .u8 2, .int .u8 19, .int .u8 3, .int .u8 3, .int .u8 3, .int .u8 3, .int .u8 3, .int .u8 3, .int .u8 3, .int .u8 3, .int .u8 3, .int .u8 3, .int .u8 3, .int .u8 3, .int .u8 35, .int .u8 3, .int .u8 3, .int .u8 52, .int .u8 4, .int .u8 4, .int .u8 4, .int .u8 68, .int .u8 241, .int .u8 241, .int .u8 241, .int .u8 241, .int .u8 241, .int .u8 241, .int .u8 241, .int .u8 241, .int .u8 241, .int .u8 241, .int .u8 241]), (1, [.int .u8 128, .int .u8 191, .int .u8 160, .int .u8 191, .int .u8 128, .int .u8 159, .int .u8 144, .int .u8 191, .int .u8 128, .int .u8 143, .int .u8 0, .int .u8 0, .int .u8 0, .int .u8 0, .int .u8 0, .int .u8 0, .int .u8 0, .int .u8 0, .int .u8 0, .int .u8 0, .int .u8 0, .int .u8 0, .int .u8 0, .int .u8 0, .int .u8 0, .int .u8 0, .int .u8 0, .int .u8 0, .int .u8 0, .int .u8 0, .int .u8 0, .int .u8 0]), (3, [.unk]), (4, [.unk])]
/-- strings.Join, by the library's contract -/
def renJ : Go.Shelf.Ren := ⟨fun n => bif n == 156 then 72 else bif n == 165 then 95 else bif n == 166 then 96 else bif n == 169 then 97 else bif n == 240 then 124 else bif n == 241 then 125 else bif n == 276 then 145 else bif n == 277 then 146 else n, fun n => bif n == 0 then 0 else bif n == 3 then 3 else bif n == 4 then 4 else bif n == 5 then 5 else bif n == 9 then 9 else bif n == 20 then 20 else bif n == 31 then 22 else bif n == 37 then 158 else bif n == 70 then 169 else bif n == 72 then 171 else bif n == 75 then 139 else bif n == 76 then 140 else bif n == 80 then 82 else bif n == 127 then 196 else bif n == 164 then 210 else n, fun n => n⟩
theorem join_lays : Lays.n156 Tryz.prog renJ where
  mixed := any_ok
  f156 := by kernel_rfl
  f165 := by kernel_rfl
  f166 := by kernel_rfl
  f169 := by kernel_rfl
  f240 := by kernel_rfl
  f241 := by kernel_rfl
  f276 := by kernel_rfl
  f277 := by kernel_rfl
  t0 := by kernel_rfl
  a0 := fun w => by kernel_rfl
  z0 := fun w => by kernel_rfl
  v0 := fun w => by kernel_rfl
  t3 := by kernel_rfl
  a3 := fun w => by kernel_rfl
  z3 := fun w => by kernel_rfl
  v3 := fun w => by kernel_rfl
  t4 := by kernel_rfl
  a4 := fun w => by kernel_rfl
  z4 := fun w => by kernel_rfl
  v4 := fun w => by kernel_rfl
  t9 := by kernel_rfl
  a9 := fun w => by kernel_rfl
  z9 := fun w => by kernel_rfl
  v9 := fun w => by kernel_rfl
  t20 := by kernel_rfl
  a20 := fun w => by kernel_rfl
  z20 := fun w => by kernel_rfl
  v20 := fun w => by kernel_rfl
  t31 := by kernel_rfl
  a31 := fun w => by kernel_rfl
  z31 := fun w => by kernel_rfl
  v31 := fun w => by kernel_rfl
  t37 := by kernel_rfl
  a37 := fun w => by kernel_rfl
  z37 := fun w => by kernel_rfl
  v37 := fun w => by kernel_rfl
  t70 := by kernel_rfl
  a70 := fun w => by kernel_rfl
  z70 := fun w => by kernel_rfl
  v70 := fun w => by kernel_rfl
  t72 := by kernel_rfl
  a72 := fun w => by kernel_rfl
  z72 := fun w => by kernel_rfl
  v72 := fun w => by kernel_rfl
  t75 := by kernel_rfl
  a75 := fun w => by kernel_rfl
  z75 := fun w => by kernel_rfl
  v75 := fun w => by kernel_rfl
  t76 := by kernel_rfl
  a76 := fun w => by kernel_rfl
  z76 := fun w => by kernel_rfl
  v76 := fun w => by kernel_rfl
  t127 := by kernel_rfl
  a127 := fun w => by kernel_rfl
  z127 := fun w => by kernel_rfl
  v127 := fun w => by kernel_rfl
  t164 := by kernel_rfl
  a164 := fun w => by kernel_rfl
  z164 := fun w => by kernel_rfl
  v164 := fun w => by kernel_rfl
theorem join_extra : Builder.Extra Tryz.prog renJ where
  sizeBuilder := by kernel_rfl
  liesBuilder := by kernel_rfl
  t5 := by kernel_rfl
  a5 := fun w => by kernel_rfl
  z5 := fun w => by kernel_rfl
  v5 := fun w => by kernel_rfl
  infoByte := by kernel_rfl
  cellsByte := by kernel_rfl
  sizeByte := by kernel_rfl
  neB5 := by decide
theorem join_ok : ExtOne Tryz.prog Tryz.prog.globals.size 72 .join :=
  ext_join (Go.Proofs.enters_of join_lays.f156 (by kernel_rfl) rfl) (fun a c sep w => Any.strings_Join_none join_lays join_extra a c sep w)
    (fun bk o c xs sep w h1 h2 h3 h4 h5 => Any.strings_Join join_lays join_extra bk o c xs sep w h1 h2 h3 h4 h5)

abbrev extsJ : List (Nat × Ext) := (72, .join) :: exts
theorem extsJ_ok : ∀ p ∈ extsJ, ExtOne Tryz.prog Tryz.prog.globals.size p.1 p.2 := by
  intro p hp
  rcases List.mem_cons.1 hp with rfl | hp
  · exact join_ok
  · exact exts_ok p hp
/-- slices.overlaps, by the model's entry -/
theorem over_ok : ExtOne Tryz.prog Tryz.prog.globals.size 151 (.overlaps 2) :=
  ext_overlaps (tS := 26) (tR := 4) (e := 25) (size := 2) Tryz.func151 (by kernel_rfl) (by kernel_rfl) (by kernel_rfl) (by kernel_rfl) (by kernel_rfl) (fun w => by kernel_rfl)
abbrev extsO : List (Nat × Ext) := (151, .overlaps 2) :: extsJ
theorem extsO_ok : ∀ p ∈ extsO, ExtOne Tryz.prog Tryz.prog.globals.size p.1 p.2 := by
  intro p hp
  rcases List.mem_cons.1 hp with rfl | hp
  · exact over_ok
  · exact extsJ_ok p hp
/-- slices.Insert of one element, at the cells that occur: without room, and with -/
abbrev insL : List (Nat × Nat × List C × List C × List C) := [(1, 0, [.str ⟨1, 121⟩, .str ⟨1, 113⟩], [.str ⟨1, 120⟩, .str ⟨1, 49⟩], [.str ⟨1, 120⟩, .str ⟨1, 49⟩, .str ⟨1, 121⟩, .str ⟨1, 113⟩]), (2, 0, [.str ⟨1, 120⟩, .str ⟨3, 6365282⟩, .str ⟨1, 122⟩, .str ⟨0, 0⟩], [.str ⟨1, 117⟩, .str ⟨3, 7741559⟩], [.str ⟨1, 117⟩, .str ⟨3, 7741559⟩, .str ⟨1, 120⟩, .str ⟨3, 6365282⟩, .str ⟨1, 122⟩, .str ⟨0, 0⟩])]
theorem insL_run : insL.all (fun m => insRuns (envOf Tryz.prog extsO kps) 20 (200 + 1) 137 Tryz.prog.globals.size 2 m) = true := by kernel_rfl
theorem ins_ok : ExtOne Tryz.prog Tryz.prog.globals.size 137 (.ins insL 2) :=
  ext_ins any_ok types_ok fns_ok extsO_ok 2 (by kernel_rfl) insL (by kernel_rfl) (fun m hm => List.all_eq_true.1 insL_run m hm)
abbrev extsI : List (Nat × Ext) := (137, .ins insL 2) :: extsO
theorem extsI_ok : ∀ p ∈ extsI, ExtOne Tryz.prog Tryz.prog.globals.size p.1 p.2 := by
  intro p hp
  rcases List.mem_cons.1 hp with rfl | hp
  · exact ins_ok
  · exact extsO_ok p hp
theorem gs_ok : gs.all (fun p => and (p.2.all plainC) (decide (p.1 < Tryz.prog.globals.size))) = true := by kernel_rfl
abbrev extsM : List (Nat × Ext) := extsI
theorem extsM_ok : ∀ p ∈ extsM, ExtOne Tryz.prog Tryz.prog.globals.size p.1 p.2 := extsI_ok
/-- what each law asks besides is reckoned once -/
theorem known_run : valOf (runF (envOf Tryz.prog extsM kps) 20 (200 + 1) 9 [] (st0 gs Tryz.prog.globals.size)) = some (.bool true) := by kernel_rfl
theorem known_ok : ExtOne Tryz.prog Tryz.prog.globals.size 9 (.const (.bool true) gs) :=
  ext_const any_ok types_ok fns_ok extsM_ok gs gs_ok (by kernel_rfl) rfl known_run
abbrev extsK : List (Nat × Ext) := (9, .const (.bool true) gs) :: extsM
theorem extsK_ok : ∀ p ∈ extsK, ExtOne Tryz.prog Tryz.prog.globals.size p.1 p.2 := by
  intro p hp
  rcases List.mem_cons.1 hp with rfl | hp
  · exact known_ok
  · exact extsM_ok p hp
abbrev Yes (f : Nat) (vals : Array Value) (w : World) : Prop := Calls Tryz.prog f vals w (fun e w' => e = .returned (.bool true) ∧ w.keptBut w' (fun _ => False) ∧ w.heap.size ≤ w'.heap.size)
end Wp
