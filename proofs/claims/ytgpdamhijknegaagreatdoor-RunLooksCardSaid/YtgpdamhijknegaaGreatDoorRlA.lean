import Derived.Test.YtgpdamhijknegaaGreatDoorEwG
import Derived.Test.YtgpdamhijknegaaGreatDoorProg
import Derived.KernelRfl
namespace Rl
open Go Go.Proofs Ev
def kps : List (Nat × Nat) := [(2, 1), (3, 20540048719), (4, 1043), (5, 1043), (6, 147583118394557202495), (7, 165911), (8, 23), (9, 11), (10, 8883), (11, 8883), (12, 4227103), (13, 133), (14, 133), (15, 133), (16, 443300025101891934207), (17, 8883), (18, 136382543), (19, 37295435575986685), (20, 83), (21, 16777695), (22, 68157951), (23, 39), (24, 549756354813), (25, 5), (26, 147), (27, 6198111638817934969853), (28, 2191598771), (29, 5), (30, 16781315), (31, 344541106547), (32, 162906096796671), (33, 8742045943), (34, 7), (35, 4229), (36, 65971), (37, 4297066237), (38, 16813), (39, 35913865), (40, 310647989), (41, 165), (42, 9), (43, 337791603), (44, 4397), (45, 285909149), (46, 531), (47, 4255), (48, 2993338219376694899346834733762453038311614462312435), (49, 5398376975580709381904891119677), (50, 32771), (51, 288265561061199863), (52, 5171), (53, 147), (54, 65549), (55, 2053), (56, 1), (57, 33075), (58, 2951696926844192556487), (59, 21), (60, 262147), (61, 2355), (62, 36786311923), (63, 2131), (64, 45), (65, 2605), (66, 45), (67, 147), (68, 158461160732383612598032048125), (69, 2197), (70, 133), (71, 5192296858535122776717154416950771), (72, 143724983), (73, 1049627), (74, 2606290881685703078220728248074235), (75, 201327091), (76, 9671996868613138248955899), (77, 16719), (78, 8197), (79, 524333), (80, 76157382908859639660923), (81, 288230376151711795), (82, 2253998836950067), (83, 18889465931549447815219), (84, 1328147), (85, 2291), (86, 281612957003719), (87, 37191119322291983), (88, 4613585795827699), (89, 24573), (90, 328755), (91, 720575940379281479), (92, 557), (93, 43980467339283), (94, 2868407364108295), (95, 38334933606741442831), (96, 147), (97, 2355), (98, 774478728515208342654966003), (99, 79), (100, 435), (101, 1030242934247411), (102, 262341), (103, 138551263), (104, 2253037302255567), (105, 36929516953028132295), (106, 4343), (107, 133), (108, 45), (109, 2571380766355765890621236185847), (110, 39512121931251827), (111, 2305845225475542727), (112, 595211550933283233583), (113, 66029), (114, 33624031), (115, 2427296444252632621537139), (116, 2343), (117, 1074307543), (118, 7), (119, 16719), (120, 147), (121, 307), (122, 10217992290702300886440887239), (123, 61447984286128824476406153834618308375617927833625690099), (124, 5), (125, 317), (126, 19), (127, 547), (128, 17342483), (129, 2729860521518325854970055), (130, 36893840277097169395), (131, 3437), (132, 627), (133, 135299293), (134, 43989634204275), (135, 5165959393971), (136, 633980118262278478500886283261), (137, 557), (138, 288248243249348851), (139, 66029), (140, 2279), (141, 10487), (142, 131159), (143, 275146359159), (144, 68857922295), (145, 577595450451564275), (146, 4194483), (147, 65911), (148, 4202871), (149, 266331), (150, 1119), (151, 140255), (152, 5106763693), (153, 306454195), (154, 25297389), (155, 4612251215020427773), (156, 575), (157, 133), (158, 10217992290702300886440887239), (159, 1074307543), (160, 7), (161, 435), (162, 70369817931719), (163, 279), (164, 1395), (166, 579), (167, 147), (168, 1037), (169, 5), (171, 5), (172, 19327355933), (173, 138544083), (174, 21), (175, 149), (176, 21), (177, 109), (178, 1327261), (179, 579), (180, 176771443), (181, 318217770279010052659), (182, 329927), (183, 88038575260275), (184, 2997598169589847753971), (185, 1301), (186, 1408482985181695), (187, 576460752305002483), (188, 36028797019068403), (189, 70369817931719), (190, 1327), (191, 24859446678980235670963), (192, 17597), (193, 656191), (194, 5), (195, 2656331146898282414023), (196, 572049351), (197, 2279), (198, 604508359), (199, 7), (200, 25095), (201, 328798010323503075), (202, 65537), (203, 1027), (204, 1052339), (205, 17367851), (206, 21), (207, 23), (208, 1134705135126013), (209, 147), (210, 15), (212, 579), (213, 10217992290702300886440887239), (214, 5), (215, 10371), (216, 147), (217, 579), (218, 10419), (219, 627), (220, 133), (221, 17047587), (222, 278707), (223, 12421), (224, 147), (225, 147), (226, 8397255), (227, 157), (228, 70369817931719), (229, 1327), (230, 131115), (231, 17247044619), (232, 151032928622260356155), (233, 2147570675), (234, 3), (235, 4103), (236, 147), (237, 5), (238, 147), (239, 2199), (240, 133165), (241, 65971), (242, 10371), (244, 579), (245, 45), (247, 525555), (248, 1025), (249, 33825299), (250, 8531), (251, 147), (252, 539168711), (253, 1121071012895), (254, 1157568319969494003), (255, 21), (256, 2398076729582254327931), (257, 17731839820027), (258, 297458254365183180859), (259, 295517), (260, 129), (261, 19352258135594232244089331), (262, 1125904336552947), (263, 65971), (264, 45), (265, 10371), (266, 174224577096382171037739960777314905735155), (269, 187072209581261271206726987124361732537557266448327), (270, 1171), (271, 1171), (272, 43591), (273, 43591), (274, 4343), (275, 65853), (276, 4151), (277, 21), (278, 18890845), (279, 135270227), (280, 77611434099), (281, 33555063), (282, 13), (283, 675365106681885568251890028412666823), (284, 5), (285, 8301), (286, 393203), (287, 316912650057057350528795147295), (288, 45), (289, 8796093163507), (290, 5), (291, 1218370562159455504433341), (292, 201005), (293, 37), (294, 4722367476828156729213), (295, 18890845), (296, 83), (297, 2131), (298, 135539), (299, 65971), (300, 15), (301, 115), (302, 5), (303, 5), (304, 5), (305, 5), (306, 165), (307, 8391165), (308, 599563828219485437), (309, 5), (310, 5), (311, 33075), (312, 5), (313, 51), (314, 37), (350, 1050112)]
set_option maxRecDepth 1000000
noncomputable def En (X : T Ext) : Env := { tab := tabT Tryz.prog Tryz.prog.types.toList 0 .nil, fns := T.ofL Tryz.prog.funcs.toList, ext := X, kps := pairT kps .nil }
theorem En_of (exts : List (Nat × Ext)) : envOf Tryz.prog exts kps = En (pairT exts .nil) := rfl
noncomputable def tiN (t : Nat) : TI := match (En .nil).tab.get t with
  | some i => i
  | none => ⟨0, 0, none, .bool, false⟩
theorem fn3 (X : T Ext) : (En X).fns.get 3 = some Tryz.f3 := by kernel_rfl
theorem kp3 (X : T Ext) : (En X).kps.get 3 = some 20540048719 := by kernel_rfl
theorem us22 (X : T Ext) : undT (En X) 22 = some (.slice 40) := by kernel_rfl
theorem sz40 (X : T Ext) : sizeT (En X) 40 = some 2 := by kernel_rfl
theorem uint3 (X : T Ext) : undT (En X) 3 = some (.int .i64) := by kernel_rfl
theorem us38 (X : T Ext) : undT (En X) 38 = some (.slice 35) := by kernel_rfl
theorem sz35 (X : T Ext) : sizeT (En X) 35 = some 4 := by kernel_rfl
theorem fn4 (X : T Ext) : (En X).fns.get 4 = some Tryz.f4 := by kernel_rfl
theorem kp4 (X : T Ext) : (En X).kps.get 4 = some 1043 := by kernel_rfl
theorem al40 (X : T Ext) (id : Nat) : nAlloc (En X) 40 id = some (vc (.ptr id 0), .row (mkRow [.int .i64 0, .str ⟨0, 0⟩])) := by kernel_rfl
theorem fn5 (X : T Ext) : (En X).fns.get 5 = some Tryz.f5 := by kernel_rfl
theorem kp5 (X : T Ext) : (En X).kps.get 5 = some 1043 := by kernel_rfl
theorem fn6 (X : T Ext) : (En X).fns.get 6 = some Tryz.f6 := by kernel_rfl
theorem kp6 (X : T Ext) : (En X).kps.get 6 = some 147583118394557202495 := by kernel_rfl
theorem fA_45_0 (X : T Ext) (b o : Nat) : fieldAddr (En X) 45 b o 0 = some (.ptr b (o + 0)) := fA_of (by kernel_rfl) b o
theorem fD_45_0 (X : T Ext) (l : List D) (o : Nat) : fieldAddrD (En X) 45 l o 0 = some (.dp l (o + 0)) := by kernel_rfl
theorem uint43 (X : T Ext) : undT (En X) 43 = some (.int .i64) := by kernel_rfl
theorem fA_45_1 (X : T Ext) (b o : Nat) : fieldAddr (En X) 45 b o 1 = some (.ptr b (o + 1)) := fA_of (by kernel_rfl) b o
theorem fD_45_1 (X : T Ext) (l : List D) (o : Nat) : fieldAddrD (En X) 45 l o 1 = some (.dp l (o + 1)) := by kernel_rfl
theorem fA_45_2 (X : T Ext) (b o : Nat) : fieldAddr (En X) 45 b o 2 = some (.ptr b (o + 2)) := fA_of (by kernel_rfl) b o
theorem fD_45_2 (X : T Ext) (l : List D) (o : Nat) : fieldAddrD (En X) 45 l o 2 = some (.dp l (o + 2)) := by kernel_rfl
theorem ustr9 (X : T Ext) : undT (En X) 9 = some .string := by kernel_rfl
theorem fA_45_3 (X : T Ext) (b o : Nat) : fieldAddr (En X) 45 b o 3 = some (.ptr b (o + 3)) := fA_of (by kernel_rfl) b o
theorem fD_45_3 (X : T Ext) (l : List D) (o : Nat) : fieldAddrD (En X) 45 l o 3 = some (.dp l (o + 3)) := by kernel_rfl
theorem fA_45_4 (X : T Ext) (b o : Nat) : fieldAddr (En X) 45 b o 4 = some (.ptr b (o + 4)) := fA_of (by kernel_rfl) b o
theorem fD_45_4 (X : T Ext) (l : List D) (o : Nat) : fieldAddrD (En X) 45 l o 4 = some (.dp l (o + 4)) := by kernel_rfl
theorem fA_45_5 (X : T Ext) (b o : Nat) : fieldAddr (En X) 45 b o 5 = some (.ptr b (o + 5)) := fA_of (by kernel_rfl) b o
theorem fD_45_5 (X : T Ext) (l : List D) (o : Nat) : fieldAddrD (En X) 45 l o 5 = some (.dp l (o + 5)) := by kernel_rfl
theorem fn7 (X : T Ext) : (En X).fns.get 7 = some Tryz.f7 := by kernel_rfl
theorem kp7 (X : T Ext) : (En X).kps.get 7 = some 165911 := by kernel_rfl
theorem al45 (X : T Ext) (id : Nat) : nAlloc (En X) 45 id = some (vc (.ptr id 0), .row (mkRow [.int .i64 0, .int .i64 0, .str ⟨0, 0⟩, .nils, .nils, .nils])) := by kernel_rfl
theorem fA_37_2 (X : T Ext) (b o : Nat) : fieldAddr (En X) 37 b o 2 = some (.ptr b (o + 4)) := fA_of (by kernel_rfl) b o
theorem fD_37_2 (X : T Ext) (l : List D) (o : Nat) : fieldAddrD (En X) 37 l o 2 = some (.dp l (o + 4)) := by kernel_rfl
theorem fA_37_3 (X : T Ext) (b o : Nat) : fieldAddr (En X) 37 b o 3 = some (.ptr b (o + 5)) := fA_of (by kernel_rfl) b o
theorem fD_37_3 (X : T Ext) (l : List D) (o : Nat) : fieldAddrD (En X) 37 l o 3 = some (.dp l (o + 5)) := by kernel_rfl
theorem fA_37_1 (X : T Ext) (b o : Nat) : fieldAddr (En X) 37 b o 1 = some (.ptr b (o + 3)) := fA_of (by kernel_rfl) b o
theorem fD_37_1 (X : T Ext) (l : List D) (o : Nat) : fieldAddrD (En X) 37 l o 1 = some (.dp l (o + 3)) := by kernel_rfl
theorem fA_37_0 (X : T Ext) (b o : Nat) : fieldAddr (En X) 37 b o 0 = some (.ptr b (o + 0)) := fA_of (by kernel_rfl) b o
theorem fD_37_0 (X : T Ext) (l : List D) (o : Nat) : fieldAddrD (En X) 37 l o 0 = some (.dp l (o + 0)) := by kernel_rfl
theorem fA_27_0 (X : T Ext) (b o : Nat) : fieldAddr (En X) 27 b o 0 = some (.ptr b (o + 0)) := fA_of (by kernel_rfl) b o
theorem fD_27_0 (X : T Ext) (l : List D) (o : Nat) : fieldAddrD (En X) 27 l o 0 = some (.dp l (o + 0)) := by kernel_rfl
theorem fn8 (X : T Ext) : (En X).fns.get 8 = some Tryz.f8 := by kernel_rfl
theorem kp8 (X : T Ext) : (En X).kps.get 8 = some 23 := by kernel_rfl
theorem fn10 (X : T Ext) : (En X).fns.get 10 = some Tryz.f10 := by kernel_rfl
theorem kp10 (X : T Ext) : (En X).kps.get 10 = some 8883 := by kernel_rfl
theorem us28 (X : T Ext) : undT (En X) 28 = some (.slice 54) := by kernel_rfl
theorem sz54 (X : T Ext) : sizeT (En X) 54 = some 2 := by kernel_rfl
theorem fn11 (X : T Ext) : (En X).fns.get 11 = some Tryz.f11 := by kernel_rfl
theorem kp11 (X : T Ext) : (En X).kps.get 11 = some 8883 := by kernel_rfl
theorem us23 (X : T Ext) : undT (En X) 23 = some (.slice 57) := by kernel_rfl
theorem sz57 (X : T Ext) : sizeT (En X) 57 = some 2 := by kernel_rfl
theorem fn12 (X : T Ext) : (En X).fns.get 12 = some Tryz.f12 := by kernel_rfl
theorem kp12 (X : T Ext) : (En X).kps.get 12 = some 4227103 := by kernel_rfl
theorem fA_35_0 (X : T Ext) (b o : Nat) : fieldAddr (En X) 35 b o 0 = some (.ptr b (o + 0)) := fA_of (by kernel_rfl) b o
theorem fD_35_0 (X : T Ext) (l : List D) (o : Nat) : fieldAddrD (En X) 35 l o 0 = some (.dp l (o + 0)) := by kernel_rfl
theorem fA_35_1 (X : T Ext) (b o : Nat) : fieldAddr (En X) 35 b o 1 = some (.ptr b (o + 1)) := fA_of (by kernel_rfl) b o
theorem fD_35_1 (X : T Ext) (l : List D) (o : Nat) : fieldAddrD (En X) 35 l o 1 = some (.dp l (o + 1)) := by kernel_rfl
theorem fA_35_2 (X : T Ext) (b o : Nat) : fieldAddr (En X) 35 b o 2 = some (.ptr b (o + 2)) := fA_of (by kernel_rfl) b o
theorem fD_35_2 (X : T Ext) (l : List D) (o : Nat) : fieldAddrD (En X) 35 l o 2 = some (.dp l (o + 2)) := by kernel_rfl
theorem fA_35_3 (X : T Ext) (b o : Nat) : fieldAddr (En X) 35 b o 3 = some (.ptr b (o + 3)) := fA_of (by kernel_rfl) b o
theorem fD_35_3 (X : T Ext) (l : List D) (o : Nat) : fieldAddrD (En X) 35 l o 3 = some (.dp l (o + 3)) := by kernel_rfl
theorem fn13 (X : T Ext) : (En X).fns.get 13 = some Tryz.f13 := by kernel_rfl
theorem kp13 (X : T Ext) : (En X).kps.get 13 = some 133 := by kernel_rfl
theorem bS28_0 (X : T Ext) (id : Nat) : buildSlice (En X) 28 0 [] id = some (vc (.sl id 0 0 (some 0) 2), .row (mkRow [])) := by kernel_rfl
theorem el28 (X : T Ext) : elemTI (En X) 28 = some (tiN 54) := by kernel_rfl
theorem ti54 : (tiN 54).size = 2 ∧ (tiN 54).bytes = 32 := ⟨by kernel_rfl, by kernel_rfl⟩
theorem fn14 (X : T Ext) : (En X).fns.get 14 = some Tryz.f14 := by kernel_rfl
theorem kp14 (X : T Ext) : (En X).kps.get 14 = some 133 := by kernel_rfl
theorem bS23_0 (X : T Ext) (id : Nat) : buildSlice (En X) 23 0 [] id = some (vc (.sl id 0 0 (some 0) 2), .row (mkRow [])) := by kernel_rfl
theorem el23 (X : T Ext) : elemTI (En X) 23 = some (tiN 57) := by kernel_rfl
theorem ti57 : (tiN 57).size = 2 ∧ (tiN 57).bytes = 32 := ⟨by kernel_rfl, by kernel_rfl⟩
theorem fn15 (X : T Ext) : (En X).fns.get 15 = some Tryz.f15 := by kernel_rfl
theorem kp15 (X : T Ext) : (En X).kps.get 15 = some 133 := by kernel_rfl
theorem bS38_0 (X : T Ext) (id : Nat) : buildSlice (En X) 38 0 [] id = some (vc (.sl id 0 0 (some 0) 4), .row (mkRow [])) := by kernel_rfl
theorem el38 (X : T Ext) : elemTI (En X) 38 = some (tiN 35) := by kernel_rfl
theorem ti35 : (tiN 35).size = 4 ∧ (tiN 35).bytes = 72 := ⟨by kernel_rfl, by kernel_rfl⟩
theorem fn17 (X : T Ext) : (En X).fns.get 17 = some Tryz.f17 := by kernel_rfl
theorem kp17 (X : T Ext) : (En X).kps.get 17 = some 8883 := by kernel_rfl
theorem us24 (X : T Ext) : undT (En X) 24 = some (.slice 9) := by kernel_rfl
theorem sz9 (X : T Ext) : sizeT (En X) 9 = some 1 := by kernel_rfl
theorem tab37 (X : T Ext) : (En X).tab.get 37 = some (tiN 37) := by kernel_rfl
theorem tis37 : (tiN 37).size = 21 := by kernel_rfl
theorem tia37 : (tiN 37).isAgg = true := by kernel_rfl
theorem ld37 (X : T Ext) (l : List D) (o : Nat) : loadD (En X) 37 l o = ldA 21 l o := loadD_agg (tab37 X) tis37 tia37 l o
theorem ldh37 (X : T Ext) (look : Look) (b o : Nat) : load (En X) 37 look b o = ldHA 21 look b o := load_agg (tab37 X) tis37 tia37 look b o
theorem tab40 (X : T Ext) : (En X).tab.get 40 = some (tiN 40) := by kernel_rfl
theorem tis40 : (tiN 40).size = 2 := by kernel_rfl
theorem tia40 : (tiN 40).isAgg = true := by kernel_rfl
theorem ld40 (X : T Ext) (l : List D) (o : Nat) : loadD (En X) 40 l o = ldA 2 l o := loadD_agg (tab40 X) tis40 tia40 l o
theorem ldh40 (X : T Ext) (look : Look) (b o : Nat) : load (En X) 40 look b o = ldHA 2 look b o := load_agg (tab40 X) tis40 tia40 look b o
theorem tab43 (X : T Ext) : (En X).tab.get 43 = some (tiN 43) := by kernel_rfl
theorem tis43 : (tiN 43).size = 1 := by kernel_rfl
theorem tia43 : (tiN 43).isAgg = false := by kernel_rfl
theorem ld43 (X : T Ext) (l : List D) (o : Nat) : loadD (En X) 43 l o = ldC l o := loadD_one (tab43 X) tis43 tia43 l o
theorem ldh43 (X : T Ext) (look : Look) (b o : Nat) : load (En X) 43 look b o = ldHC look b o := load_one (tab43 X) tis43 tia43 look b o
theorem tab3 (X : T Ext) : (En X).tab.get 3 = some (tiN 3) := by kernel_rfl
theorem tis3 : (tiN 3).size = 1 := by kernel_rfl
theorem tia3 : (tiN 3).isAgg = false := by kernel_rfl
theorem ld3 (X : T Ext) (l : List D) (o : Nat) : loadD (En X) 3 l o = ldC l o := loadD_one (tab3 X) tis3 tia3 l o
theorem ldh3 (X : T Ext) (look : Look) (b o : Nat) : load (En X) 3 look b o = ldHC look b o := load_one (tab3 X) tis3 tia3 look b o
theorem tab9 (X : T Ext) : (En X).tab.get 9 = some (tiN 9) := by kernel_rfl
theorem tis9 : (tiN 9).size = 1 := by kernel_rfl
theorem tia9 : (tiN 9).isAgg = false := by kernel_rfl
theorem ld9 (X : T Ext) (l : List D) (o : Nat) : loadD (En X) 9 l o = ldC l o := loadD_one (tab9 X) tis9 tia9 l o
theorem ldh9 (X : T Ext) (look : Look) (b o : Nat) : load (En X) 9 look b o = ldHC look b o := load_one (tab9 X) tis9 tia9 look b o
theorem tab28 (X : T Ext) : (En X).tab.get 28 = some (tiN 28) := by kernel_rfl
theorem tis28 : (tiN 28).size = 1 := by kernel_rfl
theorem tia28 : (tiN 28).isAgg = false := by kernel_rfl
theorem ld28 (X : T Ext) (l : List D) (o : Nat) : loadD (En X) 28 l o = ldC l o := loadD_one (tab28 X) tis28 tia28 l o
theorem ldh28 (X : T Ext) (look : Look) (b o : Nat) : load (En X) 28 look b o = ldHC look b o := load_one (tab28 X) tis28 tia28 look b o
theorem tab23 (X : T Ext) : (En X).tab.get 23 = some (tiN 23) := by kernel_rfl
theorem tis23 : (tiN 23).size = 1 := by kernel_rfl
theorem tia23 : (tiN 23).isAgg = false := by kernel_rfl
theorem ld23 (X : T Ext) (l : List D) (o : Nat) : loadD (En X) 23 l o = ldC l o := loadD_one (tab23 X) tis23 tia23 l o
theorem ldh23 (X : T Ext) (look : Look) (b o : Nat) : load (En X) 23 look b o = ldHC look b o := load_one (tab23 X) tis23 tia23 look b o
theorem tab38 (X : T Ext) : (En X).tab.get 38 = some (tiN 38) := by kernel_rfl
theorem tis38 : (tiN 38).size = 1 := by kernel_rfl
theorem tia38 : (tiN 38).isAgg = false := by kernel_rfl
theorem ld38 (X : T Ext) (l : List D) (o : Nat) : loadD (En X) 38 l o = ldC l o := loadD_one (tab38 X) tis38 tia38 l o
theorem ldh38 (X : T Ext) (look : Look) (b o : Nat) : load (En X) 38 look b o = ldHC look b o := load_one (tab38 X) tis38 tia38 look b o
theorem tab35 (X : T Ext) : (En X).tab.get 35 = some (tiN 35) := by kernel_rfl
theorem tis35 : (tiN 35).size = 4 := by kernel_rfl
theorem tia35 : (tiN 35).isAgg = true := by kernel_rfl
theorem ld35 (X : T Ext) (l : List D) (o : Nat) : loadD (En X) 35 l o = ldA 4 l o := loadD_agg (tab35 X) tis35 tia35 l o
theorem ldh35 (X : T Ext) (look : Look) (b o : Nat) : load (En X) 35 look b o = ldHA 4 look b o := load_agg (tab35 X) tis35 tia35 look b o
theorem tab45 (X : T Ext) : (En X).tab.get 45 = some (tiN 45) := by kernel_rfl
theorem tis45 : (tiN 45).size = 6 := by kernel_rfl
theorem tia45 : (tiN 45).isAgg = true := by kernel_rfl
theorem ld45 (X : T Ext) (l : List D) (o : Nat) : loadD (En X) 45 l o = ldA 6 l o := loadD_agg (tab45 X) tis45 tia45 l o
theorem ldh45 (X : T Ext) (look : Look) (b o : Nat) : load (En X) 45 look b o = ldHA 6 look b o := load_agg (tab45 X) tis45 tia45 look b o
theorem tab54 (X : T Ext) : (En X).tab.get 54 = some (tiN 54) := by kernel_rfl
theorem tis54 : (tiN 54).size = 2 := by kernel_rfl
theorem tia54 : (tiN 54).isAgg = true := by kernel_rfl
theorem ld54 (X : T Ext) (l : List D) (o : Nat) : loadD (En X) 54 l o = ldA 2 l o := loadD_agg (tab54 X) tis54 tia54 l o
theorem ldh54 (X : T Ext) (look : Look) (b o : Nat) : load (En X) 54 look b o = ldHA 2 look b o := load_agg (tab54 X) tis54 tia54 look b o
theorem tab57 (X : T Ext) : (En X).tab.get 57 = some (tiN 57) := by kernel_rfl
theorem tis57 : (tiN 57).size = 2 := by kernel_rfl
theorem tia57 : (tiN 57).isAgg = true := by kernel_rfl
theorem ld57 (X : T Ext) (l : List D) (o : Nat) : loadD (En X) 57 l o = ldA 2 l o := loadD_agg (tab57 X) tis57 tia57 l o
theorem ldh57 (X : T Ext) (look : Look) (b o : Nat) : load (En X) 57 look b o = ldHA 2 look b o := load_agg (tab57 X) tis57 tia57 look b o
theorem tab24 (X : T Ext) : (En X).tab.get 24 = some (tiN 24) := by kernel_rfl
theorem tis24 : (tiN 24).size = 1 := by kernel_rfl
theorem tia24 : (tiN 24).isAgg = false := by kernel_rfl
theorem ld24 (X : T Ext) (l : List D) (o : Nat) : loadD (En X) 24 l o = ldC l o := loadD_one (tab24 X) tis24 tia24 l o
theorem ldh24 (X : T Ext) (look : Look) (b o : Nat) : load (En X) 24 look b o = ldHC look b o := load_one (tab24 X) tis24 tia24 look b o
end Rl
