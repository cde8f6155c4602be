/-
  What the evaluator asks of this program: the functions, what is kept of each, and the closed facts; the outer functions' contracts.
-/
import Derived.Test.YtekfbchdhcghnaaGreatDoorEvZg
import Derived.Test.YtekfbchdhcghnaaGreatDoorProg
import Derived.Test.YtekfbchdhcghnaaGreatDoorChecked
import Derived.ProofKit
import Derived.Shelf.Strconv.Clone
namespace Sk
open Go Go.Proofs Ev
def kps : List (Nat × Nat) := [(2, 1), (3, 2305843026528307197), (4, 182693281215121195646090793906972987466916626429), (5, 34045), (6, 16777695), (7, 16575), (8, 68157951), (9, 8883), (10, 8883), (11, 9403516588969175037), (12, 19), (13, 162906096796671), (14, 8742045943), (15, 7), (16, 1749264367289035171708899643817954783229), (17, 574537779905715), (18, 5), (19, 3), (20, 8674099963), (21, 4255), (22, 2993338219376694899346834733762453038311614462312435), (23, 5398376975580709381904891119677), (24, 32771), (25, 288265561061199863), (26, 5171), (27, 8589967997), (28, 35184440246557), (29, 311289657317926928839), (30, 3), (31, 9), (32, 1353515635), (33, 2131), (34, 34668733), (35, 19), (36, 133), (37, 5192296858535122776717154416950771), (38, 143724983), (39, 1049627), (40, 2606290881685703078220728248074235), (41, 201327091), (42, 9671996868613138248955899), (43, 16719), (44, 8197), (45, 524333), (46, 76157382908859639660923), (47, 288230376151711795), (48, 2253998836950067), (49, 18889465931549447815219), (50, 1328147), (51, 2291), (52, 281612957003719), (53, 37191119322291983), (54, 65549), (55, 2097171), (56, 4503599665643571), (57, 2362336198176206356935), (58, 11975125454684370502415), (59, 18014415689352647), (60, 8594391053), (61, 29), (62, 147), (63, 36786311923), (64, 79), (65, 138551263), (66, 2253037302255567), (67, 36929516953028132295), (68, 4343), (69, 133), (70, 45), (71, 2571380766355765890621236185847), (72, 39512121931251827), (73, 2305845225475542727), (74, 595211550933283233583), (75, 66029), (76, 33624031), (77, 2427296444252632621537139), (78, 2343), (79, 1074307543), (80, 7), (81, 16719), (82, 147), (83, 307), (84, 4229), (85, 133), (86, 10217992290702300886440887239), (87, 24573), (88, 23134623455382676475729629221319), (89, 333266374640146493), (90, 5), (91, 5), (92, 268435509), (93, 147), (94, 52247487139007295903185999367383027), (95, 66029), (96, 2279), (97, 147), (98, 158461160732383612598032048125), (99, 10487), (100, 131159), (101, 275146359159), (102, 68857922295), (103, 577595450451564275), (104, 4194483), (105, 65911), (106, 4202871), (107, 266331), (108, 1119), (109, 133), (110, 140255), (111, 5106763693), (112, 306454195), (113, 25297389), (114, 16813), (115, 4612251215020427773), (116, 575), (117, 133), (118, 10217992290702300886440887239), (119, 1074307543), (120, 7), (121, 435), (122, 70369817931719), (123, 279), (124, 1395), (125, 147), (127, 579), (128, 4295051789), (129, 2165441117), (130, 229), (131, 35443), (132, 131), (133, 82655350245619), (134, 16912733), (135, 29), (136, 38724086727), (137, 321888607705662714905074081789), (138, 70369817931719), (139, 1327), (140, 435), (141, 1030242934247411), (142, 262341), (143, 24859446678980235670963), (144, 17597), (145, 135299293), (146, 656191), (147, 5), (148, 2656331146898282414023), (149, 572049351), (150, 2279), (151, 604508359), (152, 7), (153, 25095), (154, 328798010323503075), (155, 65537), (156, 1027), (157, 1052339), (158, 17367851), (159, 21), (160, 23), (161, 1134705135126013), (162, 147), (163, 15), (165, 579), (166, 10217992290702300886440887239), (167, 5), (168, 4613585795827699), (169, 10371), (170, 21), (171, 133309), (172, 1414874611), (173, 19432961868179699), (174, 34886087), (175, 5041802653261371610355), (176, 2972447575866688243), (177, 1069), (178, 579), (179, 17596481012031), (180, 1350566135), (181, 288248243249348851), (182, 17047587), (183, 278707), (184, 12421), (185, 147), (186, 147), (187, 8397255), (188, 5), (189, 21), (190, 109), (191, 157), (192, 70369817931719), (193, 1327), (194, 131115), (195, 17247044619), (196, 151032928622260356155), (197, 2147570675), (198, 3), (199, 4103), (200, 147), (201, 5), (202, 147), (203, 2199), (204, 133165), (205, 65971), (206, 10371), (208, 579), (209, 61447984286128824476406153834618308375617927833625690099), (210, 5), (211, 317), (212, 19), (213, 45), (214, 579), (215, 576460752305002483), (216, 36028797019068403), (217, 1025), (218, 33825299), (219, 8531), (220, 147), (221, 539168711), (222, 1121071012895), (223, 627), (224, 1157568319969494003), (225, 21), (226, 2398076729582254327931), (227, 17731839820027), (228, 297458254365183180859), (229, 295517), (230, 129), (231, 19352258135594232244089331), (232, 1125904336552947), (233, 65971), (234, 45), (235, 10371), (236, 147), (237, 1037), (238, 5), (242, 174224577096382171037739960777314905735155), (243, 187072209581261271206726987124361732537557266448327), (244, 1171), (245, 1171), (246, 43591), (247, 43591), (248, 525555), (249, 4343), (250, 65853), (251, 4151), (252, 21), (253, 18890845), (254, 135270227), (255, 77611434099), (256, 33555063), (257, 13), (258, 675365106681885568251890028412666823), (259, 5), (260, 8301), (261, 393203), (262, 316912650057057350528795147295), (263, 45), (264, 147), (265, 8796093163507), (266, 5), (267, 1218370562159455504433341), (268, 201005), (269, 37), (270, 4722367476828156729213), (271, 18890845), (272, 83), (273, 2131), (274, 135539), (275, 65971), (276, 15), (277, 115), (278, 5), (279, 5), (280, 5), (281, 5), (282, 165), (284, 8391165), (285, 599563828219485437), (286, 147), (287, 5), (288, 5), (289, 33075), (290, 5), (291, 51), (292, 37), (328, 1050112)]

set_option maxRecDepth 1000000
theorem types_ok : typesOk Tryz.prog = true := by kernel_rfl
theorem fns_ok : kps.all (fun p => fnOk Tryz.prog p.1) = true := by kernel_rfl
theorem any_ok : Tryz.prog.follows .mixedOrders = true := by kernel_rfl
theorem ib_ok : ExtOne Tryz.prog Tryz.prog.globals.size 283 .indexByte :=
  ext_indexByte Tryz.func283 (by kernel_rfl) (by kernel_rfl) (by kernel_rfl) (by kernel_rfl)
/-- internal/stringslite.Clone, by the library's contract -/
def ren : Go.Shelf.Ren := ⟨fun _ => 268, fun n => bif n == 5 then 5 else bif n == 9 then 9 else bif n == 3 then 3 else bif n == 4 then 4 else bif n == 37 then 172 else bif n == 127 then 326 else 0, fun n => n⟩
theorem clone_lays : LaysM.n316 Tryz.prog ren where
  mixed := any_ok
  f316 := by kernel_rfl
  t0 := by kernel_rfl
  a0 := fun w => by kernel_rfl
  z0 := fun w => by kernel_rfl
  v0 := fun w => by kernel_rfl
  i0 := by kernel_rfl
  t3 := by kernel_rfl
  a3 := fun w => by kernel_rfl
  z3 := fun w => by kernel_rfl
  v3 := fun w => by kernel_rfl
  i3 := by kernel_rfl
  t4 := by kernel_rfl
  a4 := fun w => by kernel_rfl
  z4 := fun w => by kernel_rfl
  v4 := fun w => by kernel_rfl
  i4 := by kernel_rfl
  t5 := by kernel_rfl
  a5 := fun w => by kernel_rfl
  z5 := fun w => by kernel_rfl
  v5 := fun w => by kernel_rfl
  i5 := by kernel_rfl
  t9 := by kernel_rfl
  a9 := fun w => by kernel_rfl
  z9 := fun w => by kernel_rfl
  v9 := fun w => by kernel_rfl
  i9 := by kernel_rfl
  t37 := by kernel_rfl
  a37 := fun w => by kernel_rfl
  z37 := fun w => by kernel_rfl
  v37 := fun w => by kernel_rfl
  i37 := by kernel_rfl
  t127 := by kernel_rfl
  a127 := fun w => by kernel_rfl
  z127 := fun w => by kernel_rfl
  v127 := fun w => by kernel_rfl
  i127 := by kernel_rfl
theorem clone_ok : ExtOne Tryz.prog Tryz.prog.globals.size 268 .same :=
  ext_clone (Go.Proofs.enters_of clone_lays.f316 (by kernel_rfl) rfl) (fun s w h => Any.stringslite_Clone clone_lays s w h)
abbrev exts : List (Nat × Ext) := [(283, .indexByte), (268, .same)]
theorem exts_ok : ∀ p ∈ exts, ExtOne Tryz.prog Tryz.prog.globals.size p.1 p.2 := by
  intro p hp
  rcases List.mem_cons.1 hp with rfl | hp
  · exact ib_ok
  · rw [List.mem_singleton] at hp
    subst hp
    exact clone_ok
/-- what is known of package variables -/
abbrev gs : List (Nat × List C) := [(0, [.int .u8 240, .int .u8 240, .int .u8 240, .int .u8 240, .int .u8 240, .int .u8 240, .int .u8 240, .int .u8 240, .int .u8 240, .int .u8 240, .int .u8 240, .int .u8 240, .int .u8 240, .int .u8 240, .int .u8 240, .int .u8 240, .int .u8 240, .int .u8 240, .int .u8 240, .int .u8 240, .int .u8 240, .int .u8 240, .int .u8 240, .int .u8 240, .int .u8 240, .int .u8 240, .int .u8 240, .int .u8 240, .int .u8 240, .int .u8 240, .int .u8 240, .int .u8 240, .int .u8 240, .int .u8 240, .int .u8 240, .int .u8 240, .int .u8 240, .int .u8 240, .int .u8 240, .int .u8 240, .int .u8 240, .int .u8 240, .int .u8 240, .int .u8 240, .int .u8 240, .int .u8 240, .int .u8 240, .int .u8 240, .int .u8 240, .int .u8 240, .int .u8 240, .int .u8 240, .int .u8 240, .int .u8 240, .int .u8 240, .int .u8 240, .int .u8 240, .int .u8 240, .int .u8 240, .int .u8 240, .int .u8 240, .int .u8 240, .int .u8 240, .int .u8 240, .int .u8 240, .int .u8 240, .int .u8 240, .int .u8 240, .int .u8 240, .int .u8 240, .int .u8 240, .int .u8 240, .int .u8 240, .int .u8 240, .int .u8 240, .int .u8 240, .int .u8 240, .int .u8 240, .int .u8 240, .int .u8 240, .int .u8 240, .int .u8 240, .int .u8 240, .int .u8 240, .int .u8 240, .int .u8 240, .int .u8 240, .int .u8 240, .int .u8 240, .int .u8 240, .int .u8 240, .int .u8 240, .int .u8 240, .int .u8 240, .int .u8 240, .int .u8 240, .int .u8 240, .int .u8 240, .int .u8 240, .int .u8 240, .int .u8 240, .int .u8 240, .int .u8 240, .int .u8 240, .int .u8 240, .int .u8 240, .int .u8 240, .int .u8 240, .int .u8 240, .int .u8 240, .int .u8 240, .int .u8 240, .int .u8 240, .int .u8 240, .int .u8 240, .int .u8 240, .int .u8 240, .int .u8 240, .int .u8 240, .int .u8 240, .int .u8 240, .int .u8 240, .int .u8 240, .int .u8 240, .int .u8 240, .int .u8 240, .int .u8 240, .int .u8 240, .int .u8 241, .int .u8 241, .int .u8 241, .int .u8 241, .int .u8 241, .int .u8 241, .int .u8 241, .int .u8 241, .int .u8 241, .int .u8 241, .int .u8 241, .int .u8 241, .int .u8 241, .int .u8 241, .int .u8 241, .int .u8 241, .int .u8 241, .int .u8 241, .int .u8 241, .int .u8 241, .int .u8 241, .int .u8 241, .int .u8 241, .int .u8 241, .int .u8 241, .int .u8 241, .int .u8 241, .int .u8 241, .int .u8 241, .int .u8 241, .int .u8 241, .int .u8 241, .int .u8 241, .int .u8 241, .int .u8 241, .int .u8 241, .int .u8 241, .int .u8 241, .int .u8 241, .int .u8 241, .int .u8 241, .int .u8 241, .int .u8 241, .int .u8 241, .int .u8 241, .int .u8 241, .int .u8 241, .int .u8 241, .int .u8 241, .int .u8 241, .int .u8 241, .int .u8 241, .int .u8 241, .int .u8 241, .int .u8 241, .int .u8 241, .int .u8 241, .int .u8 241, .int .u8 241, .int .u8 241, .int .u8 241, .int .u8 241, .int .u8 241, .int .u8 241, .int .u8 241, .int .u8 241, .int .u8 2, .int .u8 2, .int .u8 2, .int .u8 2, .int .u8 2, .int .u8 2, .int .u8 2, .int .u8 2, .int .u8 2, .int .u8 2, .int .u8 2, .int .u8 2, .int .u8 2, .int .u8 2, .int .u8 2, .int .u8 2, .int .u8 2, .int .u8 2, .int .u8 2, .int .u8 2, .int .u8 2, .int .u8 2, .int .u8 2, .int .u8 2, .int .u8 2, .int .u8 2, .int .u8 2, .int .u8 2, .int .u8 2, .int .u8 2, .int .u8 19, .int .u8 3, .int .u8 3, .int .u8 3, .int .u8 3, .int .u8 3, .int .u8 3, .int .u8 3, .int .u8 3, .int .u8 3, .int .u8 3, .int .u8 3, .int .u8 3, .int .u8 35, .int .u8 3, .int .u8 3, .int .u8 52, .int .u8 4, .int .u8 4, .int .u8 4, .int .u8 68, .int .u8 241, .int .u8 241, .int .u8 241, .int .u8 241, .int .u8 241, .int .u8 241, .int .u8 241, .int .u8 241, .int .u8 241, .int .u8 241, .int .u8 241]), (1, [.int .u8 128, .int .u8 191, .int .u8 160, .int .u8 191, .int .u8 128, .int .u8 159, .int .u8 144, .int .u8 191, .int .u8 128, .int .u8 143, .int .u8 0, .int .u8 0, .int .u8 0, .int .u8 0, .int .u8 0, .int .u8 0, .int .u8 0, .int .u8 0, .int .u8 0, .int .u8 0, .int .u8 0, .int .u8 0, .int .u8 0, .int .u8 0, .int .u8 0, .int .u8 0, .int .u8 0, .int .u8 0, .int .u8 0, .int .u8 0, .int .u8 0, .int .u8 0]), (2, [.int .u8 0, .int .u8 0, .int .u8 0, .int .u8 0, .int .u8 0, .int .u8 0, .int .u8 0, .int .u8 0, .int .u8 0, .int .u8 1, .int .u8 1, .int .u8 1, .int .u8 1, .int .u8 1, .int .u8 0, .int .u8 0, .int .u8 0, .int .u8 0, .int .u8 0, .int .u8 0, .int .u8 0, .int .u8 0, .int .u8 0, .int .u8 0, .int .u8 0, .int .u8 0, .int .u8 0, .int .u8 0, .int .u8 0, .int .u8 0, .int .u8 0, .int .u8 0, .int .u8 1, .int .u8 0, .int .u8 0, .int .u8 0, .int .u8 0, .int .u8 0, .int .u8 0, .int .u8 0, .int .u8 0, .int .u8 0, .int .u8 0, .int .u8 0, .int .u8 0, .int .u8 0, .int .u8 0, .int .u8 0, .int .u8 0, .int .u8 0, .int .u8 0, .int .u8 0, .int .u8 0, .int .u8 0, .int .u8 0, .int .u8 0, .int .u8 0, .int .u8 0, .int .u8 0, .int .u8 0, .int .u8 0, .int .u8 0, .int .u8 0, .int .u8 0, .int .u8 0, .int .u8 0, .int .u8 0, .int .u8 0, .int .u8 0, .int .u8 0, .int .u8 0, .int .u8 0, .int .u8 0, .int .u8 0, .int .u8 0, .int .u8 0, .int .u8 0, .int .u8 0, .int .u8 0, .int .u8 0, .int .u8 0, .int .u8 0, .int .u8 0, .int .u8 0, .int .u8 0, .int .u8 0, .int .u8 0, .int .u8 0, .int .u8 0, .int .u8 0, .int .u8 0, .int .u8 0, .int .u8 0, .int .u8 0, .int .u8 0, .int .u8 0, .int .u8 0, .int .u8 0, .int .u8 0, .int .u8 0, .int .u8 0, .int .u8 0, .int .u8 0, .int .u8 0, .int .u8 0, .int .u8 0, .int .u8 0, .int .u8 0, .int .u8 0, .int .u8 0, .int .u8 0, .int .u8 0, .int .u8 0, .int .u8 0, .int .u8 0, .int .u8 0, .int .u8 0, .int .u8 0, .int .u8 0, .int .u8 0, .int .u8 0, .int .u8 0, .int .u8 0, .int .u8 0, .int .u8 0, .int .u8 0, .int .u8 0, .int .u8 0, .int .u8 0, .int .u8 0, .int .u8 0, .int .u8 0, .int .u8 0, .int .u8 0, .int .u8 0, .int .u8 0, .int .u8 0, .int .u8 0, .int .u8 0, .int .u8 0, .int .u8 0, .int .u8 0, .int .u8 0, .int .u8 0, .int .u8 0, .int .u8 0, .int .u8 0, .int .u8 0, .int .u8 0, .int .u8 0, .int .u8 0, .int .u8 0, .int .u8 0, .int .u8 0, .int .u8 0, .int .u8 0, .int .u8 0, .int .u8 0, .int .u8 0, .int .u8 0, .int .u8 0, .int .u8 0, .int .u8 0, .int .u8 0, .int .u8 0, .int .u8 0, .int .u8 0, .int .u8 0, .int .u8 0, .int .u8 0, .int .u8 0, .int .u8 0, .int .u8 0, .int .u8 0, .int .u8 0, .int .u8 0, .int .u8 0, .int .u8 0, .int .u8 0, .int .u8 0, .int .u8 0, .int .u8 0, .int .u8 0, .int .u8 0, .int .u8 0, .int .u8 0, .int .u8 0, .int .u8 0, .int .u8 0, .int .u8 0, .int .u8 0, .int .u8 0, .int .u8 0, .int .u8 0, .int .u8 0, .int .u8 0, .int .u8 0, .int .u8 0, .int .u8 0, .int .u8 0, .int .u8 0, .int .u8 0, .int .u8 0, .int .u8 0, .int .u8 0, .int .u8 0, .int .u8 0, .int .u8 0, .int .u8 0, .int .u8 0, .int .u8 0, .int .u8 0, .int .u8 0, .int .u8 0, .int .u8 0, .int .u8 0, .int .u8 0, .int .u8 0, .int .u8 0, .int .u8 0, .int .u8 0, .int .u8 0, .int .u8 0, .int .u8 0, .int .u8 0, .int .u8 0, .int .u8 0, .int .u8 0, .int .u8 0, .int .u8 0, .int .u8 0, .int .u8 0, .int .u8 0, .int .u8 0, .int .u8 0, .int .u8 0, .int .u8 0, .int .u8 0, .int .u8 0, .int .u8 0, .int .u8 0, .int .u8 0, .int .u8 0, .int .u8 0, .int .u8 0, .int .u8 0, .int .u8 0, .int .u8 0, .int .u8 0, .int .u8 0, .int .u8 0, .int .u8 0, .int .u8 0, .int .u8 0, .int .u8 0, .int .u8 0]), (5, [.unk]), (6, [.unk])]
theorem gs_ok : gs.all (fun p => and (p.2.all plainC) (decide (p.1 < Tryz.prog.globals.size))) = true := by kernel_rfl
/-- what each law asks besides is reckoned once -/
theorem known_run : valOf (runF (envOf Tryz.prog exts kps) 20 (200 + 1) 7 [] (st0 gs Tryz.prog.globals.size)) = some (.bool true) := by kernel_rfl
theorem known_ok : ExtOne Tryz.prog Tryz.prog.globals.size 7 (.const (.bool true) gs) :=
  ext_const any_ok types_ok fns_ok exts_ok gs gs_ok (by kernel_rfl) rfl known_run
abbrev extsK : List (Nat × Ext) := (7, .const (.bool true) gs) :: exts
theorem extsK_ok : ∀ p ∈ extsK, ExtOne Tryz.prog Tryz.prog.globals.size p.1 p.2 := by
  intro p hp
  rcases List.mem_cons.1 hp with rfl | hp
  · exact known_ok
  · exact exts_ok p hp
abbrev Yes (f : Nat) (vals : Array Value) (w : World) : Prop := Calls Tryz.prog f vals w (fun e w' => e = .returned (.bool true) ∧ w.keptBut w' (fun _ => False) ∧ w.heap.size ≤ w'.heap.size)
end Sk
