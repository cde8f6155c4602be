import Derived.Test.YtpkjpkfamdmgiaaGreatDoorEwG
import Derived.Test.YtpkjpkfamdmgiaaGreatDoorProg
import Derived.KernelRfl
namespace Ws
open Go Go.Proofs Ev
def kps : List (Nat × Nat) := [(2, 1), (3, 2545514212866568930011444871165), (4, 18455821641845442045), (5, 595211550933283233583), (6, 8509), (7, 138551263), (8, 262301), (9, 16782067), (10, 34361852221), (11, 2101791), (12, 8883), (13, 9079560881359), (14, 1143), (15, 4362340671), (16, 140255), (17, 5106763693), (18, 306454195), (19, 1749264367289035171708899643817954783229), (20, 33624031), (21, 66029), (22, 133309), (23, 5), (24, 536872055), (25, 8883), (26, 328798010323503075), (27, 65537), (28, 1027), (29, 1052339), (30, 17367851), (31, 21), (32, 2427296444252632621537139), (33, 8589967997), (34, 35184440246557), (35, 311289657317926928839), (36, 3), (37, 25297389), (38, 65549), (39, 17247044619), (40, 151032928622260356155), (41, 2147570675), (42, 3), (43, 4103), (44, 147), (45, 16813), (46, 5), (47, 147), (48, 2199), (49, 23), (50, 4612251215020427773), (51, 575), (52, 2097171), (53, 4503599665643571), (54, 2362336198176206356935), (55, 11975125454684370502415), (56, 18014415689352647), (57, 8594391053), (58, 29), (59, 24573), (60, 1157568319969494003), (61, 21), (62, 109), (63, 2398076729582254327931), (64, 17731839820027), (65, 297458254365183180859), (66, 295517), (67, 129), (68, 19352258135594232244089331), (69, 1125904336552947), (70, 65971), (71, 1134705135126013), (72, 147), (73, 15), (74, 23134623455382676475729629221319), (75, 333266374640146493), (76, 5), (77, 5), (78, 268435509), (79, 24859446678980235670963), (80, 135299293), (81, 4343), (82, 65853), (83, 4151), (84, 21), (85, 16719), (86, 18890845), (87, 135270227), (88, 77611434099), (89, 17597), (90, 33555063), (91, 13), (92, 675365106681885568251890028412666823), (93, 5), (94, 8301), (95, 393203), (96, 316912650057057350528795147295), (97, 133165), (98, 65971), (99, 4295051789), (100, 2165441117), (101, 229), (102, 17047587), (103, 278707), (104, 12421), (105, 5), (106, 21), (107, 2279), (108, 7), (109, 4722367476828156729213), (110, 1121071012895), (111, 2343), (112, 1074307543), (113, 18890845), (114, 147), (115, 83), (116, 317), (117, 2131), (118, 135539), (119, 147), (120, 8397255), (121, 65971), (122, 15), (123, 115), (124, 5), (125, 5), (126, 5), (127, 5), (128, 165), (129, 21), (130, 1025), (131, 33825299), (132, 70369817931719), (133, 1327), (134, 1395), (135, 539168711), (136, 1171), (137, 1171), (138, 43591), (139, 43591), (140, 133), (141, 133), (142, 133), (143, 10217992290702300886440887239), (144, 599563828219485437), (145, 8531), (146, 19), (147, 147), (148, 147), (149, 5), (150, 5), (153, 5), (154, 187072209581261271206726987124361732537557266448327), (155, 201005), (156, 37), (158, 579), (159, 33075), (160, 5), (161, 51), (162, 37), (163, 61447984286128824476406153834618308375617927833625690099), (164, 174224577096382171037739960777314905735155), (165, 5), (166, 1218370562159455504433341), (167, 10371), (168, 147), (169, 1037), (170, 5), (172, 147), (173, 8796093163507), (174, 45), (176, 8391165), (207, 1536)]
set_option maxRecDepth 1000000
noncomputable def En (X : T Ext) : Env := { tab := tabT Tryz.prog Tryz.prog.types.toList 0 .nil, fns := T.ofL Tryz.prog.funcs.toList, ext := X, kps := pairT kps .nil }
theorem En_of (exts : List (Nat × Ext)) : envOf Tryz.prog exts kps = En (pairT exts .nil) := rfl
noncomputable def tiN (t : Nat) : TI := match (En .nil).tab.get t with
  | some i => i
  | none => ⟨0, 0, none, .bool, false⟩
theorem fn4 (X : T Ext) : (En X).fns.get 4 = some Tryz.f4 := by kernel_rfl
theorem kp4 (X : T Ext) : (En X).kps.get 4 = some 18455821641845442045 := by kernel_rfl
theorem ustr9 (X : T Ext) : undT (En X) 9 = some .string := by kernel_rfl
theorem uint3 (X : T Ext) : undT (En X) 3 = some (.int .i64) := by kernel_rfl
theorem al28 (X : T Ext) (id : Nat) : nAlloc (En X) 28 id = some (vc (.ptr id 0), .row (mkRow [.nils, .nils, .nils])) := by kernel_rfl
theorem uint29 (X : T Ext) : undT (En X) 29 = some (.int .i64) := by kernel_rfl
theorem fn7 (X : T Ext) : (En X).fns.get 7 = some Tryz.f7 := by kernel_rfl
theorem kp7 (X : T Ext) : (En X).kps.get 7 = some 138551263 := by kernel_rfl
theorem fn20 (X : T Ext) : (En X).fns.get 20 = some Tryz.f20 := by kernel_rfl
theorem kp20 (X : T Ext) : (En X).kps.get 20 = some 33624031 := by kernel_rfl
theorem fn37 (X : T Ext) : (En X).fns.get 37 = some Tryz.f37 := by kernel_rfl
theorem kp37 (X : T Ext) : (En X).kps.get 37 = some 25297389 := by kernel_rfl
theorem us50 (X : T Ext) : undT (En X) 50 = some (.slice 80) := by kernel_rfl
theorem sz80 (X : T Ext) : sizeT (En X) 80 = some 4 := by kernel_rfl
theorem al80 (X : T Ext) (id : Nat) : nAlloc (En X) 80 id = some (vc (.ptr id 0), .row (mkRow [.str ⟨0, 0⟩, .bool false, .bool false, .bool false])) := by kernel_rfl
theorem fA_80_3 (X : T Ext) (b o : Nat) : fieldAddr (En X) 80 b o 3 = some (.ptr b (o + 3)) := fA_of (by kernel_rfl) b o
theorem fD_80_3 (X : T Ext) (l : List D) (o : Nat) : fieldAddrD (En X) 80 l o 3 = some (.dp l (o + 3)) := by kernel_rfl
theorem us40 (X : T Ext) : undT (En X) 40 = some (.slice 65) := by kernel_rfl
theorem sz65 (X : T Ext) : sizeT (En X) 65 = some 2 := by kernel_rfl
theorem bS40_1 (X : T Ext) (id : Nat) (x0_0 x0_1 : C) : buildSlice (En X) 40 1 [(0, (.agg [x0_0, x0_1]))] id = some (vc (.sl id 0 1 (some 1) 2), .row (mkRow [x0_0, x0_1])) := by kernel_rfl
theorem el40 (X : T Ext) : elemTI (En X) 40 = some (tiN 65) := by kernel_rfl
theorem ti65 : (tiN 65).size = 2 ∧ (tiN 65).bytes = 8 := ⟨by kernel_rfl, by kernel_rfl⟩
theorem fA_80_0 (X : T Ext) (b o : Nat) : fieldAddr (En X) 80 b o 0 = some (.ptr b (o + 0)) := fA_of (by kernel_rfl) b o
theorem fD_80_0 (X : T Ext) (l : List D) (o : Nat) : fieldAddrD (En X) 80 l o 0 = some (.dp l (o + 0)) := by kernel_rfl
theorem fA_80_1 (X : T Ext) (b o : Nat) : fieldAddr (En X) 80 b o 1 = some (.ptr b (o + 1)) := fA_of (by kernel_rfl) b o
theorem fD_80_1 (X : T Ext) (l : List D) (o : Nat) : fieldAddrD (En X) 80 l o 1 = some (.dp l (o + 1)) := by kernel_rfl
theorem fn29 (X : T Ext) : (En X).fns.get 29 = some Tryz.f29 := by kernel_rfl
theorem kp29 (X : T Ext) : (En X).kps.get 29 = some 1052339 := by kernel_rfl
theorem us63 (X : T Ext) : undT (En X) 63 = some (.slice 21) := by kernel_rfl
theorem sz21 (X : T Ext) : sizeT (En X) 21 = some 1 := by kernel_rfl
theorem fn45 (X : T Ext) : (En X).fns.get 45 = some Tryz.f45 := by kernel_rfl
theorem kp45 (X : T Ext) : (En X).kps.get 45 = some 16813 := by kernel_rfl
theorem bS63_1 (X : T Ext) (id : Nat) (x0_0 : C) : buildSlice (En X) 63 1 [(0, (.c x0_0))] id = some (vc (.sl id 0 1 (some 1) 1), .row (mkRow [x0_0])) := by kernel_rfl
theorem el63 (X : T Ext) : elemTI (En X) 63 = some (tiN 21) := by kernel_rfl
theorem ti21 : (tiN 21).size = 1 ∧ (tiN 21).bytes = 4 := ⟨by kernel_rfl, by kernel_rfl⟩
theorem fn21 (X : T Ext) : (En X).fns.get 21 = some Tryz.f21 := by kernel_rfl
theorem kp21 (X : T Ext) : (En X).kps.get 21 = some 66029 := by kernel_rfl
theorem al65 (X : T Ext) (id : Nat) : nAlloc (En X) 65 id = some (vc (.ptr id 0), .row (mkRow [.int .i32 0, .bool false])) := by kernel_rfl
theorem fA_65_0 (X : T Ext) (b o : Nat) : fieldAddr (En X) 65 b o 0 = some (.ptr b (o + 0)) := fA_of (by kernel_rfl) b o
theorem fD_65_0 (X : T Ext) (l : List D) (o : Nat) : fieldAddrD (En X) 65 l o 0 = some (.dp l (o + 0)) := by kernel_rfl
theorem isNew9 (X : T Ext) : isNew (En X) 9 = false := by kernel_rfl
theorem fn15 (X : T Ext) : (En X).fns.get 15 = some Tryz.f15 := by kernel_rfl
theorem kp15 (X : T Ext) : (En X).kps.get 15 = some 4362340671 := by kernel_rfl
theorem fA_28_2 (X : T Ext) (b o : Nat) : fieldAddr (En X) 28 b o 2 = some (.ptr b (o + 2)) := fA_of (by kernel_rfl) b o
theorem fD_28_2 (X : T Ext) (l : List D) (o : Nat) : fieldAddrD (En X) 28 l o 2 = some (.dp l (o + 2)) := by kernel_rfl
theorem us26 (X : T Ext) : undT (En X) 26 = some (.slice 71) := by kernel_rfl
theorem sz71 (X : T Ext) : sizeT (En X) 71 = some 2 := by kernel_rfl
theorem fA_28_0 (X : T Ext) (b o : Nat) : fieldAddr (En X) 28 b o 0 = some (.ptr b (o + 0)) := fA_of (by kernel_rfl) b o
theorem fD_28_0 (X : T Ext) (l : List D) (o : Nat) : fieldAddrD (En X) 28 l o 0 = some (.dp l (o + 0)) := by kernel_rfl
theorem fA_28_1 (X : T Ext) (b o : Nat) : fieldAddr (En X) 28 b o 1 = some (.ptr b (o + 1)) := fA_of (by kernel_rfl) b o
theorem fD_28_1 (X : T Ext) (l : List D) (o : Nat) : fieldAddrD (En X) 28 l o 1 = some (.dp l (o + 1)) := by kernel_rfl
theorem fn25 (X : T Ext) : (En X).fns.get 25 = some Tryz.f25 := by kernel_rfl
theorem kp25 (X : T Ext) : (En X).kps.get 25 = some 8883 := by kernel_rfl
theorem us24 (X : T Ext) : undT (En X) 24 = some (.slice 23) := by kernel_rfl
theorem sz23 (X : T Ext) : sizeT (En X) 23 = some 2 := by kernel_rfl
theorem fn14 (X : T Ext) : (En X).fns.get 14 = some Tryz.f14 := by kernel_rfl
theorem kp14 (X : T Ext) : (En X).kps.get 14 = some 1143 := by kernel_rfl
theorem fA_23_0 (X : T Ext) (b o : Nat) : fieldAddr (En X) 23 b o 0 = some (.ptr b (o + 0)) := fA_of (by kernel_rfl) b o
theorem fD_23_0 (X : T Ext) (l : List D) (o : Nat) : fieldAddrD (En X) 23 l o 0 = some (.dp l (o + 0)) := by kernel_rfl
theorem fA_23_1 (X : T Ext) (b o : Nat) : fieldAddr (En X) 23 b o 1 = some (.ptr b (o + 1)) := fA_of (by kernel_rfl) b o
theorem fD_23_1 (X : T Ext) (l : List D) (o : Nat) : fieldAddrD (En X) 23 l o 1 = some (.dp l (o + 1)) := by kernel_rfl
theorem fn13 (X : T Ext) : (En X).fns.get 13 = some Tryz.f13 := by kernel_rfl
theorem kp13 (X : T Ext) : (En X).kps.get 13 = some 9079560881359 := by kernel_rfl
theorem bS24_0 (X : T Ext) (id : Nat) : buildSlice (En X) 24 0 [] id = some (vc (.sl id 0 0 (some 0) 2), .row (mkRow [])) := by kernel_rfl
theorem el24 (X : T Ext) : elemTI (En X) 24 = some (tiN 23) := by kernel_rfl
theorem ti23 : (tiN 23).size = 2 ∧ (tiN 23).bytes = 32 := ⟨by kernel_rfl, by kernel_rfl⟩
theorem bS24_1 (X : T Ext) (id : Nat) (x0_0 x0_1 : C) : buildSlice (En X) 24 1 [(0, (.agg [x0_0, x0_1]))] id = some (vc (.sl id 0 1 (some 1) 2), .row (mkRow [x0_0, x0_1])) := by kernel_rfl
theorem tab28 (X : T Ext) : (En X).tab.get 28 = some (tiN 28) := by kernel_rfl
theorem tis28 : (tiN 28).size = 3 := by kernel_rfl
theorem tia28 : (tiN 28).isAgg = true := by kernel_rfl
theorem ld28 (X : T Ext) (l : List D) (o : Nat) : loadD (En X) 28 l o = ldA 3 l o := loadD_agg (tab28 X) tis28 tia28 l o
theorem ldh28 (X : T Ext) (look : Look) (b o : Nat) : load (En X) 28 look b o = ldHA 3 look b o := load_agg (tab28 X) tis28 tia28 look b o
theorem tab34 (X : T Ext) : (En X).tab.get 34 = some (tiN 34) := by kernel_rfl
theorem tis34 : (tiN 34).size = 1 := by kernel_rfl
theorem tia34 : (tiN 34).isAgg = true := by kernel_rfl
theorem ld34 (X : T Ext) (l : List D) (o : Nat) : loadD (En X) 34 l o = ldA 1 l o := loadD_agg (tab34 X) tis34 tia34 l o
theorem ldh34 (X : T Ext) (look : Look) (b o : Nat) : load (En X) 34 look b o = ldHA 1 look b o := load_agg (tab34 X) tis34 tia34 look b o
theorem tab80 (X : T Ext) : (En X).tab.get 80 = some (tiN 80) := by kernel_rfl
theorem tis80 : (tiN 80).size = 4 := by kernel_rfl
theorem tia80 : (tiN 80).isAgg = true := by kernel_rfl
theorem ld80 (X : T Ext) (l : List D) (o : Nat) : loadD (En X) 80 l o = ldA 4 l o := loadD_agg (tab80 X) tis80 tia80 l o
theorem ldh80 (X : T Ext) (look : Look) (b o : Nat) : load (En X) 80 look b o = ldHA 4 look b o := load_agg (tab80 X) tis80 tia80 look b o
theorem tab4 (X : T Ext) : (En X).tab.get 4 = some (tiN 4) := by kernel_rfl
theorem tis4 : (tiN 4).size = 1 := by kernel_rfl
theorem tia4 : (tiN 4).isAgg = false := by kernel_rfl
theorem ld4 (X : T Ext) (l : List D) (o : Nat) : loadD (En X) 4 l o = ldC l o := loadD_one (tab4 X) tis4 tia4 l o
theorem ldh4 (X : T Ext) (look : Look) (b o : Nat) : load (En X) 4 look b o = ldHC look b o := load_one (tab4 X) tis4 tia4 look b o
theorem tab9 (X : T Ext) : (En X).tab.get 9 = some (tiN 9) := by kernel_rfl
theorem tis9 : (tiN 9).size = 1 := by kernel_rfl
theorem tia9 : (tiN 9).isAgg = false := by kernel_rfl
theorem ld9 (X : T Ext) (l : List D) (o : Nat) : loadD (En X) 9 l o = ldC l o := loadD_one (tab9 X) tis9 tia9 l o
theorem ldh9 (X : T Ext) (look : Look) (b o : Nat) : load (En X) 9 look b o = ldHC look b o := load_one (tab9 X) tis9 tia9 look b o
theorem tab21 (X : T Ext) : (En X).tab.get 21 = some (tiN 21) := by kernel_rfl
theorem tis21 : (tiN 21).size = 1 := by kernel_rfl
theorem tia21 : (tiN 21).isAgg = false := by kernel_rfl
theorem ld21 (X : T Ext) (l : List D) (o : Nat) : loadD (En X) 21 l o = ldC l o := loadD_one (tab21 X) tis21 tia21 l o
theorem ldh21 (X : T Ext) (look : Look) (b o : Nat) : load (En X) 21 look b o = ldHC look b o := load_one (tab21 X) tis21 tia21 look b o
theorem tab65 (X : T Ext) : (En X).tab.get 65 = some (tiN 65) := by kernel_rfl
theorem tis65 : (tiN 65).size = 2 := by kernel_rfl
theorem tia65 : (tiN 65).isAgg = true := by kernel_rfl
theorem ld65 (X : T Ext) (l : List D) (o : Nat) : loadD (En X) 65 l o = ldA 2 l o := loadD_agg (tab65 X) tis65 tia65 l o
theorem ldh65 (X : T Ext) (look : Look) (b o : Nat) : load (En X) 65 look b o = ldHA 2 look b o := load_agg (tab65 X) tis65 tia65 look b o
theorem tab26 (X : T Ext) : (En X).tab.get 26 = some (tiN 26) := by kernel_rfl
theorem tis26 : (tiN 26).size = 1 := by kernel_rfl
theorem tia26 : (tiN 26).isAgg = false := by kernel_rfl
theorem ld26 (X : T Ext) (l : List D) (o : Nat) : loadD (En X) 26 l o = ldC l o := loadD_one (tab26 X) tis26 tia26 l o
theorem ldh26 (X : T Ext) (look : Look) (b o : Nat) : load (En X) 26 look b o = ldHC look b o := load_one (tab26 X) tis26 tia26 look b o
theorem tab24 (X : T Ext) : (En X).tab.get 24 = some (tiN 24) := by kernel_rfl
theorem tis24 : (tiN 24).size = 1 := by kernel_rfl
theorem tia24 : (tiN 24).isAgg = false := by kernel_rfl
theorem ld24 (X : T Ext) (l : List D) (o : Nat) : loadD (En X) 24 l o = ldC l o := loadD_one (tab24 X) tis24 tia24 l o
theorem ldh24 (X : T Ext) (look : Look) (b o : Nat) : load (En X) 24 look b o = ldHC look b o := load_one (tab24 X) tis24 tia24 look b o
theorem tab25 (X : T Ext) : (En X).tab.get 25 = some (tiN 25) := by kernel_rfl
theorem tis25 : (tiN 25).size = 1 := by kernel_rfl
theorem tia25 : (tiN 25).isAgg = false := by kernel_rfl
theorem ld25 (X : T Ext) (l : List D) (o : Nat) : loadD (En X) 25 l o = ldC l o := loadD_one (tab25 X) tis25 tia25 l o
theorem ldh25 (X : T Ext) (look : Look) (b o : Nat) : load (En X) 25 look b o = ldHC look b o := load_one (tab25 X) tis25 tia25 look b o
theorem tab71 (X : T Ext) : (En X).tab.get 71 = some (tiN 71) := by kernel_rfl
theorem tis71 : (tiN 71).size = 2 := by kernel_rfl
theorem tia71 : (tiN 71).isAgg = true := by kernel_rfl
theorem ld71 (X : T Ext) (l : List D) (o : Nat) : loadD (En X) 71 l o = ldA 2 l o := loadD_agg (tab71 X) tis71 tia71 l o
theorem ldh71 (X : T Ext) (look : Look) (b o : Nat) : load (En X) 71 look b o = ldHA 2 look b o := load_agg (tab71 X) tis71 tia71 look b o
theorem tab23 (X : T Ext) : (En X).tab.get 23 = some (tiN 23) := by kernel_rfl
theorem tis23 : (tiN 23).size = 2 := by kernel_rfl
theorem tia23 : (tiN 23).isAgg = true := by kernel_rfl
theorem ld23 (X : T Ext) (l : List D) (o : Nat) : loadD (En X) 23 l o = ldA 2 l o := loadD_agg (tab23 X) tis23 tia23 l o
theorem ldh23 (X : T Ext) (look : Look) (b o : Nat) : load (En X) 23 look b o = ldHA 2 look b o := load_agg (tab23 X) tis23 tia23 look b o
end Ws
