import Derived.Test.YtnjfcaphpemihaaGreatDoorEwG
import Derived.Test.YtnjfcaphpemihaaGreatDoorProg
import Derived.KernelRfl
namespace Pc
open Go Go.Proofs Ev
def kps : List (Nat × Nat) := [(2, 1), (3, 1388305555462817981), (4, 1069), (5, 141741527005), (6, 50336047), (7, 147583118394557202495), (8, 33563315), (9, 16843965), (10, 147), (11, 15), (12, 177026346751439), (13, 8883), (14, 8883), (15, 4227103), (16, 131229), (17, 1075), (18, 65971), (19, 4208653), (20, 4107), (21, 2420215132817440526047227), (22, 1), (23, 8883), (24, 133), (25, 136382543), (26, 37295435575986685), (27, 1108139316215), (28, 900728721642621939), (29, 34829), (30, 133), (31, 165911), (32, 39), (33, 549756354813), (34, 5), (35, 147), (36, 6198111638817934969853), (37, 2191598771), (38, 5), (39, 16781315), (40, 344541106547), (41, 2104317), (42, 83), (43, 184515296611372010173), (44, 37488244915228394751), (45, 21), (46, 10680728045561553526727), (47, 517), (48, 703696308846589), (49, 13), (50, 17592211308557), (51, 5), (52, 133), (53, 133), (54, 4229), (55, 65971), (56, 4297066237), (57, 16813), (58, 35913865), (59, 310647989), (60, 165), (61, 9), (62, 337791603), (63, 4397), (64, 285909149), (65, 531), (66, 21), (67, 85), (68, 2223), (69, 262227), (70, 1187), (71, 1053), (72, 1053), (73, 85), (74, 341), (75, 163), (76, 1398101), (77, 79), (78, 79), (79, 19), (80, 83746726186339950844746384417455), (81, 21), (82, 6183), (83, 71368759), (84, 71), (85, 79), (86, 525439), (87, 4570113638431), (88, 67641983), (89, 147), (90, 8830520393819), (91, 7341), (92, 133), (93, 16893869), (94, 16509), (95, 2147516669), (96, 5314839), (97, 68719869965), (98, 619008389447110147363111165), (99, 162906096796671), (100, 147), (101, 65549), (102, 2053), (103, 1), (104, 33075), (105, 2951696926844192556487), (106, 21), (107, 262147), (108, 2355), (109, 36786311923), (110, 2131), (111, 45), (112, 2605), (113, 45), (114, 147), (115, 158461160732383612598032048125), (116, 2197), (117, 1187), (118, 83), (119, 595), (120, 9134547499), (121, 3075), (122, 3075), (123, 2187), (124, 34955), (125, 9382494584875), (126, 323), (127, 270115), (128, 8920867), (129, 6535691819810961416303589550055019418006652671), (130, 8864812498975), (131, 4227103), (132, 39), (133, 143), (134, 287), (135, 551), (136, 277), (137, 147), (138, 147), (139, 65971), (140, 7), (141, 553779965), (142, 7), (143, 8841727853), (144, 85), (145, 5), (146, 181), (147, 550294389703), (148, 4215), (149, 68157951), (150, 272761467), (151, 1043), (152, 4255), (153, 2993338219376694899346834733762453038311614462312435), (154, 5398376975580709381904891119677), (155, 7), (156, 32771), (157, 4613585795827699), (158, 24573), (159, 328755), (160, 720575940379281479), (161, 557), (162, 43980467339283), (163, 2868407364108295), (164, 38334933606741442831), (165, 147), (166, 2355), (167, 774478728515208342654966003), (168, 79), (169, 435), (170, 1030242934247411), (171, 262341), (172, 2102351), (173, 268501151), (174, 12979), (175, 4227615), (176, 12979), (177, 147), (178, 2063), (179, 147), (180, 17039667), (181, 7), (182, 17039667), (183, 7), (184, 147), (185, 21), (186, 65971), (187, 65971), (188, 131115), (189, 147), (190, 8397255), (191, 21500947), (192, 1095), (193, 275), (194, 422780483337279), (195, 65971), (196, 31), (197, 8742045943), (198, 562954249437307), (199, 133), (200, 5192296858535122776717154416950771), (201, 143724983), (202, 1049627), (203, 2606290881685703078220728248074235), (204, 201327091), (205, 9671996868613138248955899), (206, 16719), (207, 8197), (208, 524333), (209, 76157382908859639660923), (210, 288230376151711795), (211, 2253998836950067), (212, 18889465931549447815219), (213, 1328147), (214, 61447984286128824476406153834618308375617927833625690099), (215, 5), (216, 317), (217, 19), (218, 547), (219, 17342483), (220, 2729860521518325854970055), (221, 36893840277097169395), (222, 3437), (223, 627), (224, 135299293), (225, 43989634204275), (226, 5165959393971), (227, 633980118262278478500886283261), (228, 557), (229, 288248243249348851), (230, 12979), (231, 65971), (232, 435), (233, 65971), (235, 539168711), (236, 1121071012895), (237, 1065159), (238, 67783), (239, 31), (240, 618819245767), (241, 1073857109), (242, 353619), (243, 288265561061199863), (244, 5171), (245, 576601595589451751), (246, 138551263), (247, 2253037302255567), (248, 36929516953028132295), (249, 4343), (250, 133), (251, 45), (252, 2571380766355765890621236185847), (253, 39512121931251827), (254, 2305845225475542727), (255, 595211550933283233583), (256, 66029), (257, 33624031), (258, 2427296444252632621537139), (259, 2343), (260, 1074307543), (261, 16719), (262, 147), (263, 1037), (264, 5), (266, 5), (267, 19327355933), (268, 138544083), (269, 21), (270, 149), (271, 21), (272, 109), (273, 1327261), (274, 579), (275, 176771443), (276, 318217770279010052659), (277, 329927), (278, 88038575260275), (279, 2997598169589847753971), (280, 1301), (281, 1408482985181695), (282, 576460752305002483), (283, 36028797019068403), (284, 187072209581261271206726987124361732537557266448327), (285, 1171), (286, 1171), (287, 43591), (288, 43591), (289, 4438294983), (290, 537264439), (291, 5), (292, 11259029133197341), (293, 413), (294, 2291), (295, 281612957003719), (296, 37191119322291983), (297, 66029), (298, 2279), (299, 10487), (300, 131159), (301, 275146359159), (302, 68857922295), (303, 577595450451564275), (304, 4194483), (305, 65911), (306, 4202871), (307, 266331), (308, 1119), (309, 140255), (310, 5106763693), (311, 306454195), (312, 25297389), (313, 4612251215020427773), (314, 575), (315, 133), (316, 10217992290702300886440887239), (317, 1074307543), (318, 147), (319, 579), (320, 10419), (321, 627), (322, 133), (323, 5), (324, 1218370562159455504433341), (325, 201005), (326, 37), (327, 21), (328, 5), (329, 8301), (330, 393203), (331, 316912650057057350528795147295), (332, 12584979), (333, 307), (334, 10217992290702300886440887239), (335, 70369817931719), (336, 1327), (337, 1395), (338, 24859446678980235670963), (339, 17597), (340, 656191), (341, 5), (342, 2656331146898282414023), (343, 572049351), (344, 2279), (345, 604508359), (346, 7), (347, 25095), (348, 328798010323503075), (349, 65537), (350, 1027), (351, 1052339), (352, 17367851), (353, 21), (354, 23), (355, 1134705135126013), (356, 147), (357, 15), (359, 579), (360, 10217992290702300886440887239), (362, 525555), (363, 21), (364, 5), (365, 5), (366, 5), (367, 5), (368, 165), (369, 70369817931719), (370, 279), (372, 579), (373, 5), (374, 17047587), (375, 278707), (376, 12421), (377, 147), (378, 147), (379, 157), (380, 70369817931719), (381, 1327), (382, 131115), (383, 17247044619), (384, 151032928622260356155), (385, 2147570675), (386, 3), (387, 4103), (388, 147), (389, 5), (390, 147), (391, 2199), (392, 133165), (393, 65971), (394, 10371), (396, 579), (397, 174224577096382171037739960777314905735155), (398, 1125904336552947), (399, 5), (400, 5), (401, 10371), (402, 1025), (403, 33825299), (404, 8531), (405, 147), (406, 1157568319969494003), (407, 2398076729582254327931), (408, 17731839820027), (409, 297458254365183180859), (410, 295517), (411, 129), (412, 19352258135594232244089331), (413, 65971), (414, 45), (415, 10371), (416, 8796093163507), (417, 45), (420, 4343), (421, 65853), (422, 4151), (423, 18890845), (424, 135270227), (425, 77611434099), (426, 33555063), (427, 13), (428, 675365106681885568251890028412666823), (429, 45), (430, 8391165), (431, 4722367476828156729213), (432, 18890845), (433, 83), (434, 2131), (435, 135539), (436, 15), (437, 115), (438, 599563828219485437), (439, 33075), (440, 5), (441, 51), (442, 37), (479, 1050112)]
set_option maxRecDepth 1000000
noncomputable def En (X : T Ext) : Env := { tab := tabT Tryz.prog Tryz.prog.types.toList 0 .nil, fns := T.ofL Tryz.prog.funcs.toList, ext := X, kps := pairT kps .nil }
theorem En_of (exts : List (Nat × Ext)) : envOf Tryz.prog exts kps = En (pairT exts .nil) := rfl
noncomputable def tiN (t : Nat) : TI := match (En .nil).tab.get t with
  | some i => i
  | none => ⟨0, 0, none, .bool, false⟩
theorem fn3 (X : T Ext) : (En X).fns.get 3 = some Tryz.f3 := by kernel_rfl
theorem kp3 (X : T Ext) : (En X).kps.get 3 = some 1388305555462817981 := by kernel_rfl
theorem us22 (X : T Ext) : undT (En X) 22 = some (.slice 28) := by kernel_rfl
theorem sz28 (X : T Ext) : sizeT (En X) 28 = some 6 := by kernel_rfl
theorem uint3 (X : T Ext) : undT (En X) 3 = some (.int .i64) := by kernel_rfl
theorem fA_28_5 (X : T Ext) (b o : Nat) : fieldAddr (En X) 28 b o 5 = some (.ptr b (o + 5)) := fA_of (by kernel_rfl) b o
theorem fD_28_5 (X : T Ext) (l : List D) (o : Nat) : fieldAddrD (En X) 28 l o 5 = some (.dp l (o + 5)) := by kernel_rfl
theorem us26 (X : T Ext) : undT (En X) 26 = some (.slice 38) := by kernel_rfl
theorem sz38 (X : T Ext) : sizeT (En X) 38 = some 4 := by kernel_rfl
theorem al28 (X : T Ext) (id : Nat) : nAlloc (En X) 28 id = some (vc (.ptr id 0), .row (mkRow [.int .i64 0, .int .i64 0, .str ⟨0, 0⟩, .nils, .nils, .nils])) := by kernel_rfl
theorem fn4 (X : T Ext) : (En X).fns.get 4 = some Tryz.f4 := by kernel_rfl
theorem kp4 (X : T Ext) : (En X).kps.get 4 = some 1069 := by kernel_rfl
theorem fn5 (X : T Ext) : (En X).fns.get 5 = some Tryz.f5 := by kernel_rfl
theorem kp5 (X : T Ext) : (En X).kps.get 5 = some 141741527005 := by kernel_rfl
theorem el26 (X : T Ext) : elemTI (En X) 26 = some (tiN 38) := by kernel_rfl
theorem ti38 : (tiN 38).size = 4 ∧ (tiN 38).bytes = 72 := ⟨by kernel_rfl, by kernel_rfl⟩
theorem al38 (X : T Ext) (id : Nat) : nAlloc (En X) 38 id = some (vc (.ptr id 0), .row (mkRow [.int .i64 0, .nils, .nils, .str ⟨0, 0⟩])) := by kernel_rfl
theorem bS26_1 (X : T Ext) (id : Nat) (x0_0 x0_1 x0_2 x0_3 : C) : buildSlice (En X) 26 1 [(0, (.agg [x0_0, x0_1, x0_2, x0_3]))] id = some (vc (.sl id 0 1 (some 1) 4), .row (mkRow [x0_0, x0_1, x0_2, x0_3])) := by kernel_rfl
theorem fn7 (X : T Ext) : (En X).fns.get 7 = some Tryz.f7 := by kernel_rfl
theorem kp7 (X : T Ext) : (En X).kps.get 7 = some 147583118394557202495 := by kernel_rfl
theorem fA_28_0 (X : T Ext) (b o : Nat) : fieldAddr (En X) 28 b o 0 = some (.ptr b (o + 0)) := fA_of (by kernel_rfl) b o
theorem fD_28_0 (X : T Ext) (l : List D) (o : Nat) : fieldAddrD (En X) 28 l o 0 = some (.dp l (o + 0)) := by kernel_rfl
theorem uint23 (X : T Ext) : undT (En X) 23 = some (.int .i64) := by kernel_rfl
theorem fA_28_1 (X : T Ext) (b o : Nat) : fieldAddr (En X) 28 b o 1 = some (.ptr b (o + 1)) := fA_of (by kernel_rfl) b o
theorem fD_28_1 (X : T Ext) (l : List D) (o : Nat) : fieldAddrD (En X) 28 l o 1 = some (.dp l (o + 1)) := by kernel_rfl
theorem fA_28_2 (X : T Ext) (b o : Nat) : fieldAddr (En X) 28 b o 2 = some (.ptr b (o + 2)) := fA_of (by kernel_rfl) b o
theorem fD_28_2 (X : T Ext) (l : List D) (o : Nat) : fieldAddrD (En X) 28 l o 2 = some (.dp l (o + 2)) := by kernel_rfl
theorem ustr9 (X : T Ext) : undT (En X) 9 = some .string := by kernel_rfl
theorem fA_28_3 (X : T Ext) (b o : Nat) : fieldAddr (En X) 28 b o 3 = some (.ptr b (o + 3)) := fA_of (by kernel_rfl) b o
theorem fD_28_3 (X : T Ext) (l : List D) (o : Nat) : fieldAddrD (En X) 28 l o 3 = some (.dp l (o + 3)) := by kernel_rfl
theorem fA_28_4 (X : T Ext) (b o : Nat) : fieldAddr (En X) 28 b o 4 = some (.ptr b (o + 4)) := fA_of (by kernel_rfl) b o
theorem fD_28_4 (X : T Ext) (l : List D) (o : Nat) : fieldAddrD (En X) 28 l o 4 = some (.dp l (o + 4)) := by kernel_rfl
theorem fn8 (X : T Ext) : (En X).fns.get 8 = some Tryz.f8 := by kernel_rfl
theorem kp8 (X : T Ext) : (En X).kps.get 8 = some 33563315 := by kernel_rfl
theorem fn9 (X : T Ext) : (En X).fns.get 9 = some Tryz.f9 := by kernel_rfl
theorem kp9 (X : T Ext) : (En X).kps.get 9 = some 16843965 := by kernel_rfl
theorem fn10 (X : T Ext) : (En X).fns.get 10 = some Tryz.f10 := by kernel_rfl
theorem kp10 (X : T Ext) : (En X).kps.get 10 = some 147 := by kernel_rfl
theorem fn11 (X : T Ext) : (En X).fns.get 11 = some Tryz.f11 := by kernel_rfl
theorem kp11 (X : T Ext) : (En X).kps.get 11 = some 15 := by kernel_rfl
theorem fA_38_0 (X : T Ext) (b o : Nat) : fieldAddr (En X) 38 b o 0 = some (.ptr b (o + 0)) := fA_of (by kernel_rfl) b o
theorem fD_38_0 (X : T Ext) (l : List D) (o : Nat) : fieldAddrD (En X) 38 l o 0 = some (.dp l (o + 0)) := by kernel_rfl
theorem fn13 (X : T Ext) : (En X).fns.get 13 = some Tryz.f13 := by kernel_rfl
theorem kp13 (X : T Ext) : (En X).kps.get 13 = some 8883 := by kernel_rfl
theorem us24 (X : T Ext) : undT (En X) 24 = some (.slice 59) := by kernel_rfl
theorem sz59 (X : T Ext) : sizeT (En X) 59 = some 2 := by kernel_rfl
theorem fn14 (X : T Ext) : (En X).fns.get 14 = some Tryz.f14 := by kernel_rfl
theorem kp14 (X : T Ext) : (En X).kps.get 14 = some 8883 := by kernel_rfl
theorem us25 (X : T Ext) : undT (En X) 25 = some (.slice 61) := by kernel_rfl
theorem sz61 (X : T Ext) : sizeT (En X) 61 = some 2 := by kernel_rfl
theorem fn15 (X : T Ext) : (En X).fns.get 15 = some Tryz.f15 := by kernel_rfl
theorem kp15 (X : T Ext) : (En X).kps.get 15 = some 4227103 := by kernel_rfl
theorem fA_38_1 (X : T Ext) (b o : Nat) : fieldAddr (En X) 38 b o 1 = some (.ptr b (o + 1)) := fA_of (by kernel_rfl) b o
theorem fD_38_1 (X : T Ext) (l : List D) (o : Nat) : fieldAddrD (En X) 38 l o 1 = some (.dp l (o + 1)) := by kernel_rfl
theorem fA_38_2 (X : T Ext) (b o : Nat) : fieldAddr (En X) 38 b o 2 = some (.ptr b (o + 2)) := fA_of (by kernel_rfl) b o
theorem fD_38_2 (X : T Ext) (l : List D) (o : Nat) : fieldAddrD (En X) 38 l o 2 = some (.dp l (o + 2)) := by kernel_rfl
theorem fA_38_3 (X : T Ext) (b o : Nat) : fieldAddr (En X) 38 b o 3 = some (.ptr b (o + 3)) := fA_of (by kernel_rfl) b o
theorem fD_38_3 (X : T Ext) (l : List D) (o : Nat) : fieldAddrD (En X) 38 l o 3 = some (.dp l (o + 3)) := by kernel_rfl
theorem fn16 (X : T Ext) : (En X).fns.get 16 = some Tryz.f16 := by kernel_rfl
theorem kp16 (X : T Ext) : (En X).kps.get 16 = some 131229 := by kernel_rfl
theorem fn17 (X : T Ext) : (En X).fns.get 17 = some Tryz.f17 := by kernel_rfl
theorem kp17 (X : T Ext) : (En X).kps.get 17 = some 1075 := by kernel_rfl
theorem fn23 (X : T Ext) : (En X).fns.get 23 = some Tryz.f23 := by kernel_rfl
theorem kp23 (X : T Ext) : (En X).kps.get 23 = some 8883 := by kernel_rfl
theorem us36 (X : T Ext) : undT (En X) 36 = some (.slice 9) := by kernel_rfl
theorem sz9 (X : T Ext) : sizeT (En X) 9 = some 1 := by kernel_rfl
theorem fn18 (X : T Ext) : (En X).fns.get 18 = some Tryz.f18 := by kernel_rfl
theorem kp18 (X : T Ext) : (En X).kps.get 18 = some 65971 := by kernel_rfl
theorem tab26 (X : T Ext) : (En X).tab.get 26 = some (tiN 26) := by kernel_rfl
theorem tis26 : (tiN 26).size = 1 := by kernel_rfl
theorem tia26 : (tiN 26).isAgg = false := by kernel_rfl
theorem ld26 (X : T Ext) (l : List D) (o : Nat) : loadD (En X) 26 l o = ldC l o := loadD_one (tab26 X) tis26 tia26 l o
theorem ldh26 (X : T Ext) (look : Look) (b o : Nat) : load (En X) 26 look b o = ldHC look b o := load_one (tab26 X) tis26 tia26 look b o
theorem tab28 (X : T Ext) : (En X).tab.get 28 = some (tiN 28) := by kernel_rfl
theorem tis28 : (tiN 28).size = 6 := by kernel_rfl
theorem tia28 : (tiN 28).isAgg = true := by kernel_rfl
theorem ld28 (X : T Ext) (l : List D) (o : Nat) : loadD (En X) 28 l o = ldA 6 l o := loadD_agg (tab28 X) tis28 tia28 l o
theorem ldh28 (X : T Ext) (look : Look) (b o : Nat) : load (En X) 28 look b o = ldHA 6 look b o := load_agg (tab28 X) tis28 tia28 look b o
theorem tab38 (X : T Ext) : (En X).tab.get 38 = some (tiN 38) := by kernel_rfl
theorem tis38 : (tiN 38).size = 4 := by kernel_rfl
theorem tia38 : (tiN 38).isAgg = true := by kernel_rfl
theorem ld38 (X : T Ext) (l : List D) (o : Nat) : loadD (En X) 38 l o = ldA 4 l o := loadD_agg (tab38 X) tis38 tia38 l o
theorem ldh38 (X : T Ext) (look : Look) (b o : Nat) : load (En X) 38 look b o = ldHA 4 look b o := load_agg (tab38 X) tis38 tia38 look b o
theorem tab23 (X : T Ext) : (En X).tab.get 23 = some (tiN 23) := by kernel_rfl
theorem tis23 : (tiN 23).size = 1 := by kernel_rfl
theorem tia23 : (tiN 23).isAgg = false := by kernel_rfl
theorem ld23 (X : T Ext) (l : List D) (o : Nat) : loadD (En X) 23 l o = ldC l o := loadD_one (tab23 X) tis23 tia23 l o
theorem ldh23 (X : T Ext) (look : Look) (b o : Nat) : load (En X) 23 look b o = ldHC look b o := load_one (tab23 X) tis23 tia23 look b o
theorem tab3 (X : T Ext) : (En X).tab.get 3 = some (tiN 3) := by kernel_rfl
theorem tis3 : (tiN 3).size = 1 := by kernel_rfl
theorem tia3 : (tiN 3).isAgg = false := by kernel_rfl
theorem ld3 (X : T Ext) (l : List D) (o : Nat) : loadD (En X) 3 l o = ldC l o := loadD_one (tab3 X) tis3 tia3 l o
theorem ldh3 (X : T Ext) (look : Look) (b o : Nat) : load (En X) 3 look b o = ldHC look b o := load_one (tab3 X) tis3 tia3 look b o
theorem tab9 (X : T Ext) : (En X).tab.get 9 = some (tiN 9) := by kernel_rfl
theorem tis9 : (tiN 9).size = 1 := by kernel_rfl
theorem tia9 : (tiN 9).isAgg = false := by kernel_rfl
theorem ld9 (X : T Ext) (l : List D) (o : Nat) : loadD (En X) 9 l o = ldC l o := loadD_one (tab9 X) tis9 tia9 l o
theorem ldh9 (X : T Ext) (look : Look) (b o : Nat) : load (En X) 9 look b o = ldHC look b o := load_one (tab9 X) tis9 tia9 look b o
theorem tab24 (X : T Ext) : (En X).tab.get 24 = some (tiN 24) := by kernel_rfl
theorem tis24 : (tiN 24).size = 1 := by kernel_rfl
theorem tia24 : (tiN 24).isAgg = false := by kernel_rfl
theorem ld24 (X : T Ext) (l : List D) (o : Nat) : loadD (En X) 24 l o = ldC l o := loadD_one (tab24 X) tis24 tia24 l o
theorem ldh24 (X : T Ext) (look : Look) (b o : Nat) : load (En X) 24 look b o = ldHC look b o := load_one (tab24 X) tis24 tia24 look b o
theorem tab25 (X : T Ext) : (En X).tab.get 25 = some (tiN 25) := by kernel_rfl
theorem tis25 : (tiN 25).size = 1 := by kernel_rfl
theorem tia25 : (tiN 25).isAgg = false := by kernel_rfl
theorem ld25 (X : T Ext) (l : List D) (o : Nat) : loadD (En X) 25 l o = ldC l o := loadD_one (tab25 X) tis25 tia25 l o
theorem ldh25 (X : T Ext) (look : Look) (b o : Nat) : load (En X) 25 look b o = ldHC look b o := load_one (tab25 X) tis25 tia25 look b o
theorem tab59 (X : T Ext) : (En X).tab.get 59 = some (tiN 59) := by kernel_rfl
theorem tis59 : (tiN 59).size = 2 := by kernel_rfl
theorem tia59 : (tiN 59).isAgg = true := by kernel_rfl
theorem ld59 (X : T Ext) (l : List D) (o : Nat) : loadD (En X) 59 l o = ldA 2 l o := loadD_agg (tab59 X) tis59 tia59 l o
theorem ldh59 (X : T Ext) (look : Look) (b o : Nat) : load (En X) 59 look b o = ldHA 2 look b o := load_agg (tab59 X) tis59 tia59 look b o
theorem tab61 (X : T Ext) : (En X).tab.get 61 = some (tiN 61) := by kernel_rfl
theorem tis61 : (tiN 61).size = 2 := by kernel_rfl
theorem tia61 : (tiN 61).isAgg = true := by kernel_rfl
theorem ld61 (X : T Ext) (l : List D) (o : Nat) : loadD (En X) 61 l o = ldA 2 l o := loadD_agg (tab61 X) tis61 tia61 l o
theorem ldh61 (X : T Ext) (look : Look) (b o : Nat) : load (En X) 61 look b o = ldHA 2 look b o := load_agg (tab61 X) tis61 tia61 look b o
theorem tab36 (X : T Ext) : (En X).tab.get 36 = some (tiN 36) := by kernel_rfl
theorem tis36 : (tiN 36).size = 1 := by kernel_rfl
theorem tia36 : (tiN 36).isAgg = false := by kernel_rfl
theorem ld36 (X : T Ext) (l : List D) (o : Nat) : loadD (En X) 36 l o = ldC l o := loadD_one (tab36 X) tis36 tia36 l o
theorem ldh36 (X : T Ext) (look : Look) (b o : Nat) : load (En X) 36 look b o = ldHC look b o := load_one (tab36 X) tis36 tia36 look b o
end Pc
