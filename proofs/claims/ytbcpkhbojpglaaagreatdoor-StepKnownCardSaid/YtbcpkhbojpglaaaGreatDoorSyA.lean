/-
  What the evaluator asks of this program: the functions, what is kept of each, and the closed facts; the outer functions' contracts.
-/
import Derived.Test.YtbcpkhbojpglaaaGreatDoorEwH
import Derived.Test.YtbcpkhbojpglaaaGreatDoorEwH
import Derived.Test.YtbcpkhbojpglaaaGreatDoorEwH
import Derived.Test.YtbcpkhbojpglaaaGreatDoorSyB
import Derived.Test.YtbcpkhbojpglaaaGreatDoorProg
import Derived.Test.YtbcpkhbojpglaaaGreatDoorChecked
import Derived.ProofKit
import Derived.Shelf.Strconv.Clone
import Derived.Shelf.Strings.OnBuilder
namespace Sy
open Go Go.Proofs Ev
def kps : List (Nat × Nat) := [(2, 1), (3, 2305843026528307197), (4, 34045), (5, 16777695), (6, 16575), (7, 9403516588969175037), (8, 19), (9, 162906096796671), (10, 1749264367289035171708899643817954783229), (11, 574537779905715), (12, 5), (13, 3), (14, 8674099963), (15, 4255), (16, 2993338219376694899346834733762453038311614462312435), (17, 5398376975580709381904891119677), (18, 7), (19, 32771), (20, 8589967997), (21, 35184440246557), (22, 311289657317926928839), (23, 3), (24, 9), (25, 1353515635), (26, 2131), (27, 34668733), (28, 19), (29, 133), (30, 5192296858535122776717154416950771), (31, 143724983), (32, 1049627), (33, 2606290881685703078220728248074235), (34, 201327091), (35, 9671996868613138248955899), (36, 16719), (37, 8197), (38, 524333), (39, 76157382908859639660923), (40, 288230376151711795), (41, 2253998836950067), (42, 18889465931549447815219), (43, 1328147), (44, 65549), (45, 2097171), (46, 4503599665643571), (47, 2362336198176206356935), (48, 11975125454684370502415), (49, 18014415689352647), (50, 8594391053), (51, 29), (52, 147), (53, 36786311923), (54, 79), (55, 138551263), (56, 2253037302255567), (57, 36929516953028132295), (58, 4343), (59, 133), (60, 45), (61, 2571380766355765890621236185847), (62, 39512121931251827), (63, 2305845225475542727), (64, 595211550933283233583), (65, 66029), (66, 33624031), (67, 2427296444252632621537139), (68, 2343), (69, 1074307543), (70, 7), (71, 16719), (72, 147), (73, 24573), (74, 23134623455382676475729629221319), (75, 333266374640146493), (76, 5), (77, 5), (78, 268435509), (79, 147), (80, 52247487139007295903185999367383027), (81, 66029), (82, 2291), (83, 281612957003719), (84, 2279), (85, 147), (86, 158461160732383612598032048125), (87, 10487), (88, 131159), (89, 275146359159), (90, 68857922295), (91, 577595450451564275), (92, 4194483), (93, 65911), (94, 4202871), (95, 266331), (96, 1119), (97, 133), (98, 140255), (99, 5106763693), (100, 306454195), (101, 25297389), (102, 16813), (103, 4612251215020427773), (104, 575), (105, 133), (106, 10217992290702300886440887239), (107, 1074307543), (108, 7), (109, 435), (110, 4295051789), (111, 2165441117), (112, 229), (113, 35443), (114, 131), (115, 82655350245619), (116, 16912733), (117, 29), (118, 38724086727), (119, 321888607705662714905074081789), (120, 307), (121, 4229), (122, 133), (123, 10217992290702300886440887239), (124, 70369817931719), (125, 1327), (126, 1395), (127, 435), (128, 1030242934247411), (129, 262341), (130, 8742045943), (131, 24859446678980235670963), (132, 17597), (133, 135299293), (134, 656191), (135, 5), (136, 2656331146898282414023), (137, 572049351), (138, 2279), (139, 604508359), (140, 7), (141, 25095), (142, 328798010323503075), (143, 65537), (144, 1027), (145, 1052339), (146, 17367851), (147, 21), (148, 23), (149, 1134705135126013), (150, 147), (151, 15), (153, 579), (154, 10217992290702300886440887239), (155, 21), (156, 133309), (157, 1414874611), (158, 19432961868179699), (159, 34886087), (160, 5041802653261371610355), (161, 2972447575866688243), (162, 1069), (163, 579), (164, 17596481012031), (165, 1350566135), (166, 70369817931719), (167, 279), (168, 147), (170, 579), (171, 5), (172, 288248243249348851), (173, 288265561061199863), (174, 5171), (175, 17047587), (176, 278707), (177, 12421), (178, 147), (179, 147), (180, 8397255), (181, 5), (182, 21), (183, 109), (184, 157), (185, 70369817931719), (186, 1327), (187, 131115), (188, 17247044619), (189, 151032928622260356155), (190, 2147570675), (191, 3), (192, 4103), (193, 147), (194, 5), (195, 147), (196, 2199), (197, 133165), (198, 65971), (199, 10371), (201, 579), (202, 579), (203, 4613585795827699), (204, 10371), (205, 576460752305002483), (206, 36028797019068403), (207, 37191119322291983), (208, 1025), (209, 33825299), (210, 8531), (211, 147), (212, 539168711), (213, 1121071012895), (214, 627), (215, 1157568319969494003), (216, 21), (217, 2398076729582254327931), (218, 17731839820027), (219, 297458254365183180859), (220, 295517), (221, 129), (222, 19352258135594232244089331), (223, 1125904336552947), (224, 65971), (225, 45), (226, 10371), (227, 61447984286128824476406153834618308375617927833625690099), (228, 5), (229, 317), (230, 19), (231, 45), (234, 174224577096382171037739960777314905735155), (235, 187072209581261271206726987124361732537557266448327), (236, 1171), (237, 1171), (238, 43591), (239, 43591), (240, 525555), (241, 4343), (242, 65853), (243, 4151), (244, 21), (245, 18890845), (246, 135270227), (247, 77611434099), (248, 33555063), (249, 13), (250, 675365106681885568251890028412666823), (251, 5), (252, 8301), (253, 393203), (254, 316912650057057350528795147295), (255, 45), (256, 147), (257, 1037), (258, 5), (260, 147), (261, 8796093163507), (262, 5), (263, 1218370562159455504433341), (264, 201005), (265, 37), (266, 4722367476828156729213), (267, 18890845), (268, 83), (269, 2131), (270, 135539), (271, 65971), (272, 15), (273, 115), (274, 5), (275, 5), (276, 5), (277, 5), (278, 165), (280, 8391165), (281, 599563828219485437), (282, 147), (283, 5), (284, 5), (285, 33075), (286, 5), (287, 51), (288, 37), (324, 1050112)]

set_option maxRecDepth 1000000
theorem types_ok : typesOk Tryz.prog = true := by kernel_rfl
theorem fns_ok : kps.all (fun p => fnOk Tryz.prog p.1) = true := by kernel_rfl
theorem any_ok : Tryz.prog.follows .mixedOrders = true := by kernel_rfl
theorem ib_ok : ExtOne Tryz.prog Tryz.prog.globals.size 279 .indexByte :=
  ext_indexByte Tryz.func279 (by kernel_rfl) (by kernel_rfl) (by kernel_rfl) (by kernel_rfl)
/-- internal/stringslite.Clone, by the library's contract -/
def ren : Go.Shelf.Ren := ⟨fun _ => 264, fun n => bif n == 5 then 5 else bif n == 9 then 9 else bif n == 3 then 3 else bif n == 4 then 4 else bif n == 37 then 274 else bif n == 127 then 314 else 0, fun n => n⟩
theorem clone_lays : LaysM.n316 Tryz.prog ren where
  mixed := any_ok
  f316 := by kernel_rfl
  t0 := by kernel_rfl
  a0 := fun w => by kernel_rfl
  z0 := fun w => by kernel_rfl
  v0 := fun w => by kernel_rfl
  i0 := by kernel_rfl
  t3 := by kernel_rfl
  a3 := fun w => by kernel_rfl
  z3 := fun w => by kernel_rfl
  v3 := fun w => by kernel_rfl
  i3 := by kernel_rfl
  t4 := by kernel_rfl
  a4 := fun w => by kernel_rfl
  z4 := fun w => by kernel_rfl
  v4 := fun w => by kernel_rfl
  i4 := by kernel_rfl
  t5 := by kernel_rfl
  a5 := fun w => by kernel_rfl
  z5 := fun w => by kernel_rfl
  v5 := fun w => by kernel_rfl
  i5 := by kernel_rfl
  t9 := by kernel_rfl
  a9 := fun w => by kernel_rfl
  z9 := fun w => by kernel_rfl
  v9 := fun w => by kernel_rfl
  i9 := by kernel_rfl
  t37 := by kernel_rfl
  a37 := fun w => by kernel_rfl
  z37 := fun w => by kernel_rfl
  v37 := fun w => by kernel_rfl
  i37 := by kernel_rfl
  t127 := by kernel_rfl
  a127 := fun w => by kernel_rfl
  z127 := fun w => by kernel_rfl
  v127 := fun w => by kernel_rfl
  i127 := by kernel_rfl
theorem clone_ok : ExtOne Tryz.prog Tryz.prog.globals.size 264 .same :=
  ext_clone (Go.Proofs.enters_of clone_lays.f316 (by kernel_rfl) rfl) (fun s w h => Any.stringslite_Clone clone_lays s w h)
abbrev exts : List (Nat × Ext) := [(279, .indexByte), (264, .same)]
theorem exts_ok : ∀ p ∈ exts, ExtOne Tryz.prog Tryz.prog.globals.size p.1 p.2 := by
  intro p hp
  rcases List.mem_cons.1 hp with rfl | hp
  · exact ib_ok
  · rw [List.mem_singleton] at hp
    subst hp
    exact clone_ok
/-- what is known of package variables -/
abbrev gs : List (Nat × List C) := [(0, [.int .u8 240, .int .u8 240, .int .u8 240, .int .u8 240, .int .u8 240, .int .u8 240, .int .u8 240, .int .u8 240, .int .u8 240, .int .u8 240, .int .u8 240, .int .u8 240, .int .u8 240, .int .u8 240, .int .u8 240, .int .u8 240, .int .u8 240, .int .u8 240, .int .u8 240, .int .u8 240, .int .u8 240, .int .u8 240, .int .u8 240, .int .u8 240, .int .u8 240, .int .u8 240, .int .u8 240, .int .u8 240, .int .u8 240, .int .u8 240, .int .u8 240, .int .u8 240, .int .u8 240, .int .u8 240, .int .u8 240, .int .u8 240, .int .u8 240, .int .u8 240, .int .u8 240, .int .u8 240, .int .u8 240, .int .u8 240, .int .u8 240, .int .u8 240, .int .u8 240, .int .u8 240, .int .u8 240, .int .u8 240, .int .u8 240, .int .u8 240, .int .u8 240, .int .u8 240, .int .u8 240, .int .u8 240, .int .u8 240, .int .u8 240, .int .u8 240, .int .u8 240, .int .u8 240, .int .u8 240, .int .u8 240, .int .u8 240, .int .u8 240, .int .u8 240, .int .u8 240, .int .u8 240, .int .u8 240, .int .u8 240, .int .u8 240, .int .u8 240, .int .u8 240, .int .u8 240, .int .u8 240, .int .u8 240, .int .u8 240, .int .u8 240, .int .u8 240, .int .u8 240, .int .u8 240, .int .u8 240, .int .u8 240, .int .u8 240, .int .u8 240, .int .u8 240, .int .u8 240, .int .u8 240, .int .u8 240, .int .u8 240, .int .u8 240, .int .u8 240, .int .u8 240, .int .u8 240, .int .u8 240, .int .u8 240, .int .u8 240, .int .u8 240, .int .u8 240, .int .u8 240, .int .u8 240, .int .u8 240, .int .u8 240, .int .u8 240, .int .u8 240, .int .u8 240, .int .u8 240, .int .u8 240, .int .u8 240, .int .u8 240, .int .u8 240, .int .u8 240, .int .u8 240, .int .u8 240, .int .u8 240, .int .u8 240, .int .u8 240, .int .u8 240, .int .u8 240, .int .u8 240, .int .u8 240, .int .u8 240, .int .u8 240, .int .u8 240, .int .u8 240, .int .u8 240, .int .u8 240, .int .u8 240, .int .u8 240, .int .u8 240, .int .u8 241, .int .u8 241, .int .u8 241, .int .u8 241, .int .u8 241, .int .u8 241, .int .u8 241, .int .u8 241, .int .u8 241, .int .u8 241, .int .u8 241, .int .u8 241, .int .u8 241, .int .u8 241, .int .u8 241, .int .u8 241, .int .u8 241, .int .u8 241, .int .u8 241, .int .u8 241, .int .u8 241, .int .u8 241, .int .u8 241, .int .u8 241, .int .u8 241, .int .u8 241, .int .u8 241, .int .u8 241, .int .u8 241, .int .u8 241, .int .u8 241, .int .u8 241, .int .u8 241, .int .u8 241, .int .u8 241, .int .u8 241, .int .u8 241, .int .u8 241, .int .u8 241, .int .u8 241, .int .u8 241, .int .u8 241, .int .u8 241, .int .u8 241, .int .u8 241, .int .u8 241, .int .u8 241, .int .u8 241, .int .u8 241, .int .u8 241, .int .u8 241, .int .u8 241, .int .u8 241, .int .u8 241, .int .u8 241, .int .u8 241, .int .u8 241, .int .u8 241, .int .u8 241, .int .u8 241, .int .u8 241, .int .u8 241, .int .u8 241, .int .u8 241, .int .u8 241, .int .u8 241, .int .u8 2, .int .u8 2, .int .u8 2, .int .u8 2, .int .u8 2, .int .u8 2, .int .u8 2, .int .u8 2, .int .u8 2, .int .u8 2, .int .u8 2, .int .u8 2, .int .u8 2, .int .u8 2, .int .u8 2, .int .u8 2, .int .u8 2, .int .u8 2, .int .u8 2, .int .u8 2, .int .u8 2, .int .u8 2, .int .u8 2, .int .u8 2, .int .u8 2, .int .u8 2, .int .u8 2, .int .u8 2, .int .u8 2, .int .u8 2, .int .u8 19, .int .u8 3, .int .u8 3, .int .u8 3, .int .u8 3, .int .u8 3, .int .u8 3, .int .u8 3, .int .u8 3, .int .u8 3, .int .u8 3, .int .u8 3, .int .u8 3, .int .u8 35, .int .u8 3, .int .u8 3, .int .u8 52, .int .u8 4, .int .u8 4, .int .u8 4, .int .u8 68, .int .u8 241, .int .u8 241, .int .u8 241, .int .u8 241, .int .u8 241, .int .u8 241, .int .u8 241, .int .u8 241, .int .u8 241, .int .u8 241, .int .u8 241]), (2, [.int .u8 0, .int .u8 0, .int .u8 0, .int .u8 0, .int .u8 0, .int .u8 0, .int .u8 0, .int .u8 0, .int .u8 0, .int .u8 1, .int .u8 1, .int .u8 1, .int .u8 1, .int .u8 1, .int .u8 0, .int .u8 0, .int .u8 0, .int .u8 0, .int .u8 0, .int .u8 0, .int .u8 0, .int .u8 0, .int .u8 0, .int .u8 0, .int .u8 0, .int .u8 0, .int .u8 0, .int .u8 0, .int .u8 0, .int .u8 0, .int .u8 0, .int .u8 0, .int .u8 1, .int .u8 0, .int .u8 0, .int .u8 0, .int .u8 0, .int .u8 0, .int .u8 0, .int .u8 0, .int .u8 0, .int .u8 0, .int .u8 0, .int .u8 0, .int .u8 0, .int .u8 0, .int .u8 0, .int .u8 0, .int .u8 0, .int .u8 0, .int .u8 0, .int .u8 0, .int .u8 0, .int .u8 0, .int .u8 0, .int .u8 0, .int .u8 0, .int .u8 0, .int .u8 0, .int .u8 0, .int .u8 0, .int .u8 0, .int .u8 0, .int .u8 0, .int .u8 0, .int .u8 0, .int .u8 0, .int .u8 0, .int .u8 0, .int .u8 0, .int .u8 0, .int .u8 0, .int .u8 0, .int .u8 0, .int .u8 0, .int .u8 0, .int .u8 0, .int .u8 0, .int .u8 0, .int .u8 0, .int .u8 0, .int .u8 0, .int .u8 0, .int .u8 0, .int .u8 0, .int .u8 0, .int .u8 0, .int .u8 0, .int .u8 0, .int .u8 0, .int .u8 0, .int .u8 0, .int .u8 0, .int .u8 0, .int .u8 0, .int .u8 0, .int .u8 0, .int .u8 0, .int .u8 0, .int .u8 0, .int .u8 0, .int .u8 0, .int .u8 0, .int .u8 0, .int .u8 0, .int .u8 0, .int .u8 0, .int .u8 0, .int .u8 0, .int .u8 0, .int .u8 0, .int .u8 0, .int .u8 0, .int .u8 0, .int .u8 0, .int .u8 0, .int .u8 0, .int .u8 0, .int .u8 0, .int .u8 0, .int .u8 0, .int .u8 0, .int .u8 0, .int .u8 0, .int .u8 0, .int .u8 0, .int .u8 0, .int .u8 0, .int .u8 0, .int .u8 0, .int .u8 0, .int .u8 0, .int .u8 0, .int .u8 0, .int .u8 0, .int .u8 0, .int .u8 0, .int .u8 0, .int .u8 0, .int .u8 0, .int .u8 0, .int .u8 0, .int .u8 0, .int .u8 0, .int .u8 0, .int .u8 0, .int .u8 0, .int .u8 0, .int .u8 0, .int .u8 0, .int .u8 0, .int .u8 0, .int .u8 0, .int .u8 0, .int .u8 0, .int .u8 0, .int .u8 0, .int .u8 0, .int .u8 0, .int .u8 0, .int .u8 0, .int .u8 0, .int .u8 0, .int .u8 0, .int .u8 0, .int .u8 0, .int .u8 0, .int .u8 0, .int .u8 0, .int .u8 0, .int .u8 0, .int .u8 0, .int .u8 0, .int .u8 0, .int .u8 0, .int .u8 0, .int .u8 0, .int .u8 0, .int .u8 0, .int .u8 0, .int .u8 0, .int .u8 0, .int .u8 0, .int .u8 0, .int .u8 0, .int .u8 0, .int .u8 0, .int .u8 0, .int .u8 0, .int .u8 0, .int .u8 0, .int .u8 0, .int .u8 0, .int .u8 0, .int .u8 0, .int .u8 0, .int .u8 0, .int .u8 0, .int .u8 0, .int .u8 0, .int .u8 0, .int .u8 0, .int .u8 0, .int .u8 0, .int .u8 0, .int .u8 0, .int .u8 0, .int .u8 0, .int .u8 0, .int .u8 0, .int .u8 0, .int .u8 0, .int .u8 0, .int .u8 0, .int .u8 0, .int .u8 0, .int .u8 0, .int .u8 0, .int .u8 0, .int .u8 0, .int .u8 0, .int .u8 0, .int .u8 0, .int .u8 0, .int .u8 0, .int .u8 0, .int .u8 0, .int .u8 0, .int .u8 0, .int .u8 0, .int .u8 0, .int .u8 0, .int .u8 0, .int .u8 0, .int .u8 0, .int .u8 0, .int .u8 0, .int .u8 0, .int .u8 0, .int .u8 0, .int .u8 0, .int .u8 0, .int .u8 0, .int .u8 0, .int .u8 0, .int .u8 0, .int .u8 0, .int .u8 0, .int .u8 0, .int .u8 0, .int .u8 0, .int .u8 0, .int .u8 0, .int .u8 0, .int .u8 0, .int .u8 0]), (1, [.int .u8 128, .int .u8 191, .int .u8 160, .int .u8 191, .int .u8 128, .int .u8 159, .int .u8 144, .int .u8 191, .int .u8 128, .int .u8 143, .int .u8 0, .int .u8 0, .int .u8 0, .int .u8 0, .int .u8 0, .int .u8 0, .int .u8 0, .int .u8 0, .int .u8 0, .int .u8 0, .int .u8 0, .int .u8 0, .int .u8 0, .int .u8 0, .int .u8 0, .int .u8 0, .int .u8 0, .int .u8 0, .int .u8 0, .int .u8 0, .int .u8 0, .int .u8 0]), (5, [.unk]), (6, [.unk])]
/-- strings.Join, by the library's contract -/
def renJ : Go.Shelf.Ren := ⟨fun n => bif n == 156 then 131 else bif n == 165 then 175 else bif n == 166 then 176 else bif n == 169 then 177 else bif n == 240 then 208 else bif n == 241 then 209 else bif n == 276 then 232 else bif n == 277 then 233 else n, fun n => bif n == 0 then 0 else bif n == 3 then 3 else bif n == 4 then 4 else bif n == 5 then 5 else bif n == 9 then 9 else bif n == 20 then 20 else bif n == 31 then 22 else bif n == 37 then 274 else bif n == 70 then 273 else bif n == 72 then 276 else bif n == 75 then 278 else bif n == 76 then 279 else bif n == 80 then 91 else bif n == 127 then 314 else bif n == 164 then 335 else n, fun n => n⟩
theorem join_lays : Lays.n156 Tryz.prog renJ where
  mixed := any_ok
  f156 := by kernel_rfl
  f165 := by kernel_rfl
  f166 := by kernel_rfl
  f169 := by kernel_rfl
  f240 := by kernel_rfl
  f241 := by kernel_rfl
  f276 := by kernel_rfl
  f277 := by kernel_rfl
  t0 := by kernel_rfl
  a0 := fun w => by kernel_rfl
  z0 := fun w => by kernel_rfl
  v0 := fun w => by kernel_rfl
  t3 := by kernel_rfl
  a3 := fun w => by kernel_rfl
  z3 := fun w => by kernel_rfl
  v3 := fun w => by kernel_rfl
  t4 := by kernel_rfl
  a4 := fun w => by kernel_rfl
  z4 := fun w => by kernel_rfl
  v4 := fun w => by kernel_rfl
  t9 := by kernel_rfl
  a9 := fun w => by kernel_rfl
  z9 := fun w => by kernel_rfl
  v9 := fun w => by kernel_rfl
  t20 := by kernel_rfl
  a20 := fun w => by kernel_rfl
  z20 := fun w => by kernel_rfl
  v20 := fun w => by kernel_rfl
  t31 := by kernel_rfl
  a31 := fun w => by kernel_rfl
  z31 := fun w => by kernel_rfl
  v31 := fun w => by kernel_rfl
  t37 := by kernel_rfl
  a37 := fun w => by kernel_rfl
  z37 := fun w => by kernel_rfl
  v37 := fun w => by kernel_rfl
  t70 := by kernel_rfl
  a70 := fun w => by kernel_rfl
  z70 := fun w => by kernel_rfl
  v70 := fun w => by kernel_rfl
  t72 := by kernel_rfl
  a72 := fun w => by kernel_rfl
  z72 := fun w => by kernel_rfl
  v72 := fun w => by kernel_rfl
  t75 := by kernel_rfl
  a75 := fun w => by kernel_rfl
  z75 := fun w => by kernel_rfl
  v75 := fun w => by kernel_rfl
  t76 := by kernel_rfl
  a76 := fun w => by kernel_rfl
  z76 := fun w => by kernel_rfl
  v76 := fun w => by kernel_rfl
  t127 := by kernel_rfl
  a127 := fun w => by kernel_rfl
  z127 := fun w => by kernel_rfl
  v127 := fun w => by kernel_rfl
  t164 := by kernel_rfl
  a164 := fun w => by kernel_rfl
  z164 := fun w => by kernel_rfl
  v164 := fun w => by kernel_rfl
theorem join_extra : Builder.Extra Tryz.prog renJ where
  sizeBuilder := by kernel_rfl
  liesBuilder := by kernel_rfl
  t5 := by kernel_rfl
  a5 := fun w => by kernel_rfl
  z5 := fun w => by kernel_rfl
  v5 := fun w => by kernel_rfl
  infoByte := by kernel_rfl
  cellsByte := by kernel_rfl
  sizeByte := by kernel_rfl
  neB5 := by decide
theorem join_ok : ExtOne Tryz.prog Tryz.prog.globals.size 131 .join :=
  ext_join (Go.Proofs.enters_of join_lays.f156 (by kernel_rfl) rfl) (fun a c sep w => Any.strings_Join_none join_lays join_extra a c sep w)
    (fun bk o c xs sep w h1 h2 h3 h4 h5 => Any.strings_Join join_lays join_extra bk o c xs sep w h1 h2 h3 h4 h5)

abbrev extsJ : List (Nat × Ext) := (131, .join) :: exts
theorem extsJ_ok : ∀ p ∈ extsJ, ExtOne Tryz.prog Tryz.prog.globals.size p.1 p.2 := by
  intro p hp
  rcases List.mem_cons.1 hp with rfl | hp
  · exact join_ok
  · exact exts_ok p hp
/-- slices.overlaps, by the model's entry -/
theorem over_ok : ExtOne Tryz.prog Tryz.prog.globals.size 200 (.overlaps 2) :=
  ext_overlaps (tS := 27) (tR := 4) (e := 163) (size := 2) Tryz.func200 (by kernel_rfl) (by kernel_rfl) (by kernel_rfl) (by kernel_rfl) (by kernel_rfl) (fun w => by kernel_rfl)
abbrev extsO : List (Nat × Ext) := (200, .overlaps 2) :: extsJ
theorem extsO_ok : ∀ p ∈ extsO, ExtOne Tryz.prog Tryz.prog.globals.size p.1 p.2 := by
  intro p hp
  rcases List.mem_cons.1 hp with rfl | hp
  · exact over_ok
  · exact extsJ_ok p hp
/-- slices.Insert of one element, at the cells that occur: without room, and with -/
abbrev insL : List (Nat × Nat × List C × List C × List C) := [(1, 0, [.str ⟨1, 120⟩, .str ⟨1, 53⟩], [.str ⟨1, 102⟩, .str ⟨1, 54⟩], [.str ⟨1, 102⟩, .str ⟨1, 54⟩, .str ⟨1, 120⟩, .str ⟨1, 53⟩])]
theorem insL_run : insL.all (fun m => insRuns (envOf Tryz.prog extsO kps) 20 (200 + 1) 154 Tryz.prog.globals.size 2 m) = true := by kernel_rfl
theorem ins_ok : ExtOne Tryz.prog Tryz.prog.globals.size 154 (.ins insL 2) :=
  ext_ins any_ok types_ok fns_ok extsO_ok 2 (by kernel_rfl) insL (by kernel_rfl) (fun m hm => List.all_eq_true.1 insL_run m hm)
abbrev extsI : List (Nat × Ext) := (154, .ins insL 2) :: extsO
theorem extsI_ok : ∀ p ∈ extsI, ExtOne Tryz.prog Tryz.prog.globals.size p.1 p.2 := by
  intro p hp
  rcases List.mem_cons.1 hp with rfl | hp
  · exact ins_ok
  · exact extsO_ok p hp
theorem gs_ok : gs.all (fun p => and (p.2.all plainC) (decide (p.1 < Tryz.prog.globals.size))) = true := by kernel_rfl
/-- strings.Fields at constant texts: reckoned once -/
abbrev gsM : List (Nat × List C) := [(2, [.int .u8 0, .int .u8 0, .int .u8 0, .int .u8 0, .int .u8 0, .int .u8 0, .int .u8 0, .int .u8 0, .int .u8 0, .int .u8 1, .int .u8 1, .int .u8 1, .int .u8 1, .int .u8 1, .int .u8 0, .int .u8 0, .int .u8 0, .int .u8 0, .int .u8 0, .int .u8 0, .int .u8 0, .int .u8 0, .int .u8 0, .int .u8 0, .int .u8 0, .int .u8 0, .int .u8 0, .int .u8 0, .int .u8 0, .int .u8 0, .int .u8 0, .int .u8 0, .int .u8 1, .int .u8 0, .int .u8 0, .int .u8 0, .int .u8 0, .int .u8 0, .int .u8 0, .int .u8 0, .int .u8 0, .int .u8 0, .int .u8 0, .int .u8 0, .int .u8 0, .int .u8 0, .int .u8 0, .int .u8 0, .int .u8 0, .int .u8 0, .int .u8 0, .int .u8 0, .int .u8 0, .int .u8 0, .int .u8 0, .int .u8 0, .int .u8 0, .int .u8 0, .int .u8 0, .int .u8 0, .int .u8 0, .int .u8 0, .int .u8 0, .int .u8 0, .int .u8 0, .int .u8 0, .int .u8 0, .int .u8 0, .int .u8 0, .int .u8 0, .int .u8 0, .int .u8 0, .int .u8 0, .int .u8 0, .int .u8 0, .int .u8 0, .int .u8 0, .int .u8 0, .int .u8 0, .int .u8 0, .int .u8 0, .int .u8 0, .int .u8 0, .int .u8 0, .int .u8 0, .int .u8 0, .int .u8 0, .int .u8 0, .int .u8 0, .int .u8 0, .int .u8 0, .int .u8 0, .int .u8 0, .int .u8 0, .int .u8 0, .int .u8 0, .int .u8 0, .int .u8 0, .int .u8 0, .int .u8 0, .int .u8 0, .int .u8 0, .int .u8 0, .int .u8 0, .int .u8 0, .int .u8 0, .int .u8 0, .int .u8 0, .int .u8 0, .int .u8 0, .int .u8 0, .int .u8 0, .int .u8 0, .int .u8 0, .int .u8 0, .int .u8 0, .int .u8 0, .int .u8 0, .int .u8 0, .int .u8 0, .int .u8 0, .int .u8 0, .int .u8 0, .int .u8 0, .int .u8 0, .int .u8 0, .int .u8 0, .int .u8 0, .int .u8 0, .int .u8 0, .int .u8 0, .int .u8 0, .int .u8 0, .int .u8 0, .int .u8 0, .int .u8 0, .int .u8 0, .int .u8 0, .int .u8 0, .int .u8 0, .int .u8 0, .int .u8 0, .int .u8 0, .int .u8 0, .int .u8 0, .int .u8 0, .int .u8 0, .int .u8 0, .int .u8 0, .int .u8 0, .int .u8 0, .int .u8 0, .int .u8 0, .int .u8 0, .int .u8 0, .int .u8 0, .int .u8 0, .int .u8 0, .int .u8 0, .int .u8 0, .int .u8 0, .int .u8 0, .int .u8 0, .int .u8 0, .int .u8 0, .int .u8 0, .int .u8 0, .int .u8 0, .int .u8 0, .int .u8 0, .int .u8 0, .int .u8 0, .int .u8 0, .int .u8 0, .int .u8 0, .int .u8 0, .int .u8 0, .int .u8 0, .int .u8 0, .int .u8 0, .int .u8 0, .int .u8 0, .int .u8 0, .int .u8 0, .int .u8 0, .int .u8 0, .int .u8 0, .int .u8 0, .int .u8 0, .int .u8 0, .int .u8 0, .int .u8 0, .int .u8 0, .int .u8 0, .int .u8 0, .int .u8 0, .int .u8 0, .int .u8 0, .int .u8 0, .int .u8 0, .int .u8 0, .int .u8 0, .int .u8 0, .int .u8 0, .int .u8 0, .int .u8 0, .int .u8 0, .int .u8 0, .int .u8 0, .int .u8 0, .int .u8 0, .int .u8 0, .int .u8 0, .int .u8 0, .int .u8 0, .int .u8 0, .int .u8 0, .int .u8 0, .int .u8 0, .int .u8 0, .int .u8 0, .int .u8 0, .int .u8 0, .int .u8 0, .int .u8 0, .int .u8 0, .int .u8 0, .int .u8 0, .int .u8 0, .int .u8 0, .int .u8 0, .int .u8 0, .int .u8 0, .int .u8 0, .int .u8 0, .int .u8 0, .int .u8 0, .int .u8 0, .int .u8 0, .int .u8 0, .int .u8 0, .int .u8 0, .int .u8 0, .int .u8 0, .int .u8 0, .int .u8 0, .int .u8 0, .int .u8 0, .int .u8 0, .int .u8 0, .int .u8 0, .int .u8 0, .int .u8 0, .int .u8 0, .int .u8 0, .int .u8 0])]
theorem gsM_ok : gsM.all (fun p => and (p.2.all plainC) (decide (p.1 < Tryz.prog.globals.size))) = true := by kernel_rfl
abbrev memos : List (List W × Nat × List C) := [([.c (.str ⟨72, 56158277549290796591401056552427106106699179583472558247090072383952908283781586490738077422014554019732798267762261191628222433767356484134379108071589780618508202549343589⟩)], 14, [.str ⟨1, 58⟩, .str ⟨4, 1953658213⟩, .str ⟨5, 439721161573⟩, .str ⟨4, 1701013615⟩, .str ⟨4, 1952805748⟩, .str ⟨1, 91⟩, .str ⟨3, 7562612⟩, .str ⟨5, 495672977012⟩, .str ⟨5, 504364230004⟩, .str ⟨4, 1919246692⟩, .str ⟨4, 1702390132⟩, .str ⟨6, 125780071117422⟩, .str ⟨5, 422826041707⟩, .str ⟨8, 7165066978433856869⟩]), ([.c (.str ⟨23, 4348097628406013595055126888440558642710602047579580261⟩)], 6, [.str ⟨3, 2975089⟩, .str ⟨3, 2977381⟩, .str ⟨3, 2976884⟩, .str ⟨3, 2976869⟩, .str ⟨3, 2975604⟩, .str ⟨3, 2975589⟩])]
theorem memos_run : memos.all (fun m => memoRun (runF (envOf Tryz.prog extsJ kps) 20 (200 + 1) 86 m.1 (st0 gsM Tryz.prog.globals.size)) m.2.1 1 m.2.2) = true := by kernel_rfl
theorem memo_ok : ExtOne Tryz.prog Tryz.prog.globals.size 86 (.memo memos gsM 1) :=
  ext_memo any_ok types_ok fns_ok extsJ_ok gsM 1 gsM_ok (by kernel_rfl) memos (by kernel_rfl) (fun m hm => List.all_eq_true.1 memos_run m hm)
abbrev extsM : List (Nat × Ext) := (86, .memo memos gsM 1) :: extsI
theorem extsM_ok : ∀ p ∈ extsM, ExtOne Tryz.prog Tryz.prog.globals.size p.1 p.2 := by
  intro p hp
  rcases List.mem_cons.1 hp with rfl | hp
  · exact memo_ok
  · exact extsI_ok p hp
/-- what each law asks besides is reckoned once -/
theorem known_run : valOf (runF (envOf Tryz.prog extsM kps) 20 (200 + 1) 6 [] (st0 gs Tryz.prog.globals.size)) = some (.bool true) := by kernel_rfl
theorem known_ok : ExtOne Tryz.prog Tryz.prog.globals.size 6 (.const (.bool true) gs) :=
  ext_const any_ok types_ok fns_ok extsM_ok gs gs_ok (by kernel_rfl) rfl known_run
abbrev extsT : List (Nat × Ext) := (187, .itb 36 97) :: extsM
theorem extsT_ok : ∀ p ∈ extsT, ExtOne Tryz.prog Tryz.prog.globals.size p.1 p.2 := by
  intro p hp
  rcases List.mem_cons.1 hp with rfl | hp
  · exact back_ok
  · exact extsM_ok p hp
abbrev extsK : List (Nat × Ext) := (6, .const (.bool true) gs) :: extsT
theorem extsK_ok : ∀ p ∈ extsK, ExtOne Tryz.prog Tryz.prog.globals.size p.1 p.2 := by
  intro p hp
  rcases List.mem_cons.1 hp with rfl | hp
  · exact known_ok
  · exact extsT_ok p hp
abbrev Yes (f : Nat) (vals : Array Value) (w : World) : Prop := Calls Tryz.prog f vals w (fun e w' => e = .returned (.bool true) ∧ w.keptBut w' (fun _ => False) ∧ w.heap.size ≤ w'.heap.size)
end Sy
