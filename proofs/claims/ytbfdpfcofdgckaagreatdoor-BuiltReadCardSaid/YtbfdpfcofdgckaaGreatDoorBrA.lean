import Derived.Test.YtbfdpfcofdgckaaGreatDoorEwG
import Derived.Test.YtbfdpfcofdgckaaGreatDoorProg
import Derived.KernelRfl
namespace Br
open Go Go.Proofs Ev
def kps : List (Nat × Nat) := [(2, 1), (3, 165928020509394422760234995), (4, 170805960985290328630459252066685943805), (5, 78068927048856497172471), (6, 2571380766355765890621236185847), (7, 75497615), (8, 4362340671), (9, 18889465931617110593607), (10, 404244595598750608808661771877096974568665079), (11, 20769187436557312321377218708243519), (12, 45), (13, 29), (14, 10487), (15, 131159), (16, 275146359159), (17, 68857922295), (18, 577595450451564275), (19, 4194483), (20, 65911), (21, 4202871), (22, 8883), (23, 8883), (24, 39615291364714625989290771007), (25, 19956721909533040641591287), (26, 2130077), (27, 23723384467155916819315), (28, 268452215), (29, 536872055), (30, 77313639159), (31, 17045455), (32, 8883), (33, 8864812498975), (34, 4227103), (35, 147), (36, 158461160732383612598032048125), (37, 8742045943), (38, 24859446678980235670963), (39, 133), (40, 17597), (41, 135299293), (42, 656191), (43, 5), (44, 16719), (45, 2656331146898282414023), (46, 572049351), (47, 2343), (48, 2279), (49, 7), (50, 604508359), (51, 4438622783), (52, 35184380510285), (53, 131111), (54, 1049143), (55, 105312304224293153103533903481912980078963052497386717697778123775), (56, 294927), (57, 307), (58, 4740814352844353214407), (59, 4612851535649513231), (60, 5), (61, 2576163353696184354348999), (62, 4690104811709), (63, 2165441117), (64, 2624767), (65, 9079560881359), (66, 5), (67, 435), (68, 1030242934247411), (69, 262341), (70, 288265561061199863), (71, 5171), (72, 17047587), (73, 278707), (74, 12421), (75, 147), (76, 147), (77, 8397255), (78, 5), (79, 21), (80, 109), (81, 157), (82, 25095), (83, 1074307543), (84, 2291), (85, 133), (86, 133), (87, 70369817931719), (88, 1327), (89, 1395), (90, 567), (91, 536871199), (92, 32845), (93, 590131), (94, 35651661), (95, 4391), (96, 18258084979), (97, 21953685225614316589065405247025943423), (98, 627), (99, 637), (100, 637), (101, 133309), (102, 21), (103, 5), (104, 33554749), (105, 25095), (106, 288248243249348851), (107, 281612957003719), (108, 37191119322291983), (109, 1025), (110, 33825299), (111, 8531), (112, 147), (113, 539168711), (114, 1121071012895), (115, 627), (116, 10217992290702300886440887239), (117, 307), (118, 5), (119, 65549), (120, 576460752305002483), (121, 36028797019068403), (122, 4229), (123, 133), (124, 10217992290702300886440887239), (127, 174224577096382171037739960777314905735155), (128, 187072209581261271206726987124361732537557266448327), (129, 1171), (130, 1171), (131, 43591), (132, 43591), (133, 525555), (135, 579), (136, 70369817931719), (137, 279), (138, 24573), (139, 147), (141, 579), (142, 147), (144, 5), (145, 8796093163507), (146, 5), (147, 1218370562159455504433341), (148, 201005), (149, 37), (150, 21), (151, 10371), (152, 4613585795827699), (153, 10371), (155, 8391165), (156, 21), (157, 45), (158, 61447984286128824476406153834618308375617927833625690099), (159, 5), (160, 317), (161, 19), (162, 45), (163, 1125904336552947), (164, 147), (165, 1037), (166, 5), (167, 8301), (168, 393203), (169, 316912650057057350528795147295), (170, 5), (171, 5), (172, 5), (173, 5), (174, 165), (175, 5), (176, 5), (212, 1050112)]
set_option maxRecDepth 1000000
noncomputable def En (X : T Ext) : Env := { tab := tabT Tryz.prog Tryz.prog.types.toList 0 .nil, fns := T.ofL Tryz.prog.funcs.toList, ext := X, kps := pairT kps .nil }
theorem En_of (exts : List (Nat × Ext)) : envOf Tryz.prog exts kps = En (pairT exts .nil) := rfl
noncomputable def tiN (t : Nat) : TI := match (En .nil).tab.get t with
  | some i => i
  | none => ⟨0, 0, none, .bool, false⟩
theorem fn4 (X : T Ext) : (En X).fns.get 4 = some Tryz.f4 := by kernel_rfl
theorem kp4 (X : T Ext) : (En X).kps.get 4 = some 170805960985290328630459252066685943805 := by kernel_rfl
theorem us22 (X : T Ext) : undT (En X) 22 = some (.slice 9) := by kernel_rfl
theorem sz9 (X : T Ext) : sizeT (En X) 9 = some 1 := by kernel_rfl
theorem uint3 (X : T Ext) : undT (En X) 3 = some (.int .i64) := by kernel_rfl
theorem ustr9 (X : T Ext) : undT (En X) 9 = some .string := by kernel_rfl
theorem uint5 (X : T Ext) : undT (En X) 5 = some (.int .u8) := by kernel_rfl
theorem al36 (X : T Ext) (id : Nat) : nAlloc (En X) 36 id = some (vc (.ptr id 0), .row (mkRow [.nils, .nils, .nils, .nils, .int .i64 0, .str ⟨0, 0⟩, .str ⟨0, 0⟩, .int .i64 0, .int .i64 0, .str ⟨0, 0⟩, .int .i64 0, .str ⟨0, 0⟩, .nils, .int .i64 0, .int .i64 0, .bool false, .bool false, .int .i64 0, .nils, .nils, .str ⟨0, 0⟩])) := by kernel_rfl
theorem bS22_2 (X : T Ext) (id : Nat) (x0_0 x1_0 : C) : buildSlice (En X) 22 2 [(0, (.c x0_0)), (1, (.c x1_0))] id = some (vc (.sl id 0 2 (some 2) 1), .row (mkRow [x0_0, x1_0])) := by kernel_rfl
theorem fA_36_2 (X : T Ext) (b o : Nat) : fieldAddr (En X) 36 b o 2 = some (.ptr b (o + 4)) := fA_of (by kernel_rfl) b o
theorem fD_36_2 (X : T Ext) (l : List D) (o : Nat) : fieldAddrD (En X) 36 l o 2 = some (.dp l (o + 4)) := by kernel_rfl
theorem fA_36_0 (X : T Ext) (b o : Nat) : fieldAddr (En X) 36 b o 0 = some (.ptr b (o + 0)) := fA_of (by kernel_rfl) b o
theorem fD_36_0 (X : T Ext) (l : List D) (o : Nat) : fieldAddrD (En X) 36 l o 0 = some (.dp l (o + 0)) := by kernel_rfl
theorem fA_26_0 (X : T Ext) (b o : Nat) : fieldAddr (En X) 26 b o 0 = some (.ptr b (o + 0)) := fA_of (by kernel_rfl) b o
theorem fD_26_0 (X : T Ext) (l : List D) (o : Nat) : fieldAddrD (En X) 26 l o 0 = some (.dp l (o + 0)) := by kernel_rfl
theorem us23 (X : T Ext) : undT (En X) 23 = some (.slice 43) := by kernel_rfl
theorem sz43 (X : T Ext) : sizeT (En X) 43 = some 2 := by kernel_rfl
theorem fA_43_1 (X : T Ext) (b o : Nat) : fieldAddr (En X) 43 b o 1 = some (.ptr b (o + 1)) := fA_of (by kernel_rfl) b o
theorem fD_43_1 (X : T Ext) (l : List D) (o : Nat) : fieldAddrD (En X) 43 l o 1 = some (.dp l (o + 1)) := by kernel_rfl
theorem fn6 (X : T Ext) : (En X).fns.get 6 = some Tryz.f6 := by kernel_rfl
theorem kp6 (X : T Ext) : (En X).kps.get 6 = some 2571380766355765890621236185847 := by kernel_rfl
theorem fA_36_1 (X : T Ext) (b o : Nat) : fieldAddr (En X) 36 b o 1 = some (.ptr b (o + 3)) := fA_of (by kernel_rfl) b o
theorem fD_36_1 (X : T Ext) (l : List D) (o : Nat) : fieldAddrD (En X) 36 l o 1 = some (.dp l (o + 3)) := by kernel_rfl
theorem fn17 (X : T Ext) : (En X).fns.get 17 = some Tryz.f17 := by kernel_rfl
theorem kp17 (X : T Ext) : (En X).kps.get 17 = some 68857922295 := by kernel_rfl
theorem fn42 (X : T Ext) : (En X).fns.get 42 = some Tryz.f42 := by kernel_rfl
theorem kp42 (X : T Ext) : (En X).kps.get 42 = some 656191 := by kernel_rfl
theorem fA_36_4 (X : T Ext) (b o : Nat) : fieldAddr (En X) 36 b o 4 = some (.ptr b (o + 6)) := fA_of (by kernel_rfl) b o
theorem fD_36_4 (X : T Ext) (l : List D) (o : Nat) : fieldAddrD (En X) 36 l o 4 = some (.dp l (o + 6)) := by kernel_rfl
theorem fA_29_0 (X : T Ext) (b o : Nat) : fieldAddr (En X) 29 b o 0 = some (.ptr b (o + 0)) := fA_of (by kernel_rfl) b o
theorem fD_29_0 (X : T Ext) (l : List D) (o : Nat) : fieldAddrD (En X) 29 l o 0 = some (.dp l (o + 0)) := by kernel_rfl
theorem fA_29_1 (X : T Ext) (b o : Nat) : fieldAddr (En X) 29 b o 1 = some (.ptr b (o + 1)) := fA_of (by kernel_rfl) b o
theorem fD_29_1 (X : T Ext) (l : List D) (o : Nat) : fieldAddrD (En X) 29 l o 1 = some (.dp l (o + 1)) := by kernel_rfl
theorem fn82 (X : T Ext) : (En X).fns.get 82 = some Tryz.f82 := by kernel_rfl
theorem kp82 (X : T Ext) : (En X).kps.get 82 = some 25095 := by kernel_rfl
theorem fn81 (X : T Ext) : (En X).fns.get 81 = some Tryz.f81 := by kernel_rfl
theorem kp81 (X : T Ext) : (En X).kps.get 81 = some 157 := by kernel_rfl
theorem fn115 (X : T Ext) : (En X).fns.get 115 = some Tryz.f115 := by kernel_rfl
theorem kp115 (X : T Ext) : (En X).kps.get 115 = some 627 := by kernel_rfl
theorem fn43 (X : T Ext) : (En X).fns.get 43 = some Tryz.f43 := by kernel_rfl
theorem kp43 (X : T Ext) : (En X).kps.get 43 = some 5 := by kernel_rfl
theorem fn133 (X : T Ext) : (En X).fns.get 133 = some Tryz.f133 := by kernel_rfl
theorem kp133 (X : T Ext) : (En X).kps.get 133 = some 525555 := by kernel_rfl
theorem fn127 (X : T Ext) : (En X).fns.get 127 = some Tryz.f127 := by kernel_rfl
theorem kp127 (X : T Ext) : (En X).kps.get 127 = some 174224577096382171037739960777314905735155 := by kernel_rfl
theorem fn142 (X : T Ext) : (En X).fns.get 142 = some Tryz.f142 := by kernel_rfl
theorem kp142 (X : T Ext) : (En X).kps.get 142 = some 147 := by kernel_rfl
theorem fn8 (X : T Ext) : (En X).fns.get 8 = some Tryz.f8 := by kernel_rfl
theorem kp8 (X : T Ext) : (En X).kps.get 8 = some 4362340671 := by kernel_rfl
theorem fA_26_2 (X : T Ext) (b o : Nat) : fieldAddr (En X) 26 b o 2 = some (.ptr b (o + 2)) := fA_of (by kernel_rfl) b o
theorem fD_26_2 (X : T Ext) (l : List D) (o : Nat) : fieldAddrD (En X) 26 l o 2 = some (.dp l (o + 2)) := by kernel_rfl
theorem us24 (X : T Ext) : undT (En X) 24 = some (.slice 61) := by kernel_rfl
theorem sz61 (X : T Ext) : sizeT (En X) 61 = some 2 := by kernel_rfl
theorem fA_26_1 (X : T Ext) (b o : Nat) : fieldAddr (En X) 26 b o 1 = some (.ptr b (o + 1)) := fA_of (by kernel_rfl) b o
theorem fD_26_1 (X : T Ext) (l : List D) (o : Nat) : fieldAddrD (En X) 26 l o 1 = some (.dp l (o + 1)) := by kernel_rfl
theorem fn22 (X : T Ext) : (En X).fns.get 22 = some Tryz.f22 := by kernel_rfl
theorem kp22 (X : T Ext) : (En X).kps.get 22 = some 8883 := by kernel_rfl
theorem tab9 (X : T Ext) : (En X).tab.get 9 = some (tiN 9) := by kernel_rfl
theorem tis9 : (tiN 9).size = 1 := by kernel_rfl
theorem tia9 : (tiN 9).isAgg = false := by kernel_rfl
theorem ld9 (X : T Ext) (l : List D) (o : Nat) : loadD (En X) 9 l o = ldC l o := loadD_one (tab9 X) tis9 tia9 l o
theorem ldh9 (X : T Ext) (look : Look) (b o : Nat) : load (En X) 9 look b o = ldHC look b o := load_one (tab9 X) tis9 tia9 look b o
theorem tab36 (X : T Ext) : (En X).tab.get 36 = some (tiN 36) := by kernel_rfl
theorem tis36 : (tiN 36).size = 21 := by kernel_rfl
theorem tia36 : (tiN 36).isAgg = true := by kernel_rfl
theorem ld36 (X : T Ext) (l : List D) (o : Nat) : loadD (En X) 36 l o = ldA 21 l o := loadD_agg (tab36 X) tis36 tia36 l o
theorem ldh36 (X : T Ext) (look : Look) (b o : Nat) : load (En X) 36 look b o = ldHA 21 look b o := load_agg (tab36 X) tis36 tia36 look b o
theorem tab3 (X : T Ext) : (En X).tab.get 3 = some (tiN 3) := by kernel_rfl
theorem tis3 : (tiN 3).size = 1 := by kernel_rfl
theorem tia3 : (tiN 3).isAgg = false := by kernel_rfl
theorem ld3 (X : T Ext) (l : List D) (o : Nat) : loadD (En X) 3 l o = ldC l o := loadD_one (tab3 X) tis3 tia3 l o
theorem ldh3 (X : T Ext) (look : Look) (b o : Nat) : load (En X) 3 look b o = ldHC look b o := load_one (tab3 X) tis3 tia3 look b o
theorem tab23 (X : T Ext) : (En X).tab.get 23 = some (tiN 23) := by kernel_rfl
theorem tis23 : (tiN 23).size = 1 := by kernel_rfl
theorem tia23 : (tiN 23).isAgg = false := by kernel_rfl
theorem ld23 (X : T Ext) (l : List D) (o : Nat) : loadD (En X) 23 l o = ldC l o := loadD_one (tab23 X) tis23 tia23 l o
theorem ldh23 (X : T Ext) (look : Look) (b o : Nat) : load (En X) 23 look b o = ldHC look b o := load_one (tab23 X) tis23 tia23 look b o
theorem tab26 (X : T Ext) : (En X).tab.get 26 = some (tiN 26) := by kernel_rfl
theorem tis26 : (tiN 26).size = 3 := by kernel_rfl
theorem tia26 : (tiN 26).isAgg = true := by kernel_rfl
theorem ld26 (X : T Ext) (l : List D) (o : Nat) : loadD (En X) 26 l o = ldA 3 l o := loadD_agg (tab26 X) tis26 tia26 l o
theorem ldh26 (X : T Ext) (look : Look) (b o : Nat) : load (En X) 26 look b o = ldHA 3 look b o := load_agg (tab26 X) tis26 tia26 look b o
theorem tab27 (X : T Ext) : (En X).tab.get 27 = some (tiN 27) := by kernel_rfl
theorem tis27 : (tiN 27).size = 1 := by kernel_rfl
theorem tia27 : (tiN 27).isAgg = false := by kernel_rfl
theorem ld27 (X : T Ext) (l : List D) (o : Nat) : loadD (En X) 27 l o = ldC l o := loadD_one (tab27 X) tis27 tia27 l o
theorem ldh27 (X : T Ext) (look : Look) (b o : Nat) : load (En X) 27 look b o = ldHC look b o := load_one (tab27 X) tis27 tia27 look b o
theorem tab24 (X : T Ext) : (En X).tab.get 24 = some (tiN 24) := by kernel_rfl
theorem tis24 : (tiN 24).size = 1 := by kernel_rfl
theorem tia24 : (tiN 24).isAgg = false := by kernel_rfl
theorem ld24 (X : T Ext) (l : List D) (o : Nat) : loadD (En X) 24 l o = ldC l o := loadD_one (tab24 X) tis24 tia24 l o
theorem ldh24 (X : T Ext) (look : Look) (b o : Nat) : load (En X) 24 look b o = ldHC look b o := load_one (tab24 X) tis24 tia24 look b o
theorem tab22 (X : T Ext) : (En X).tab.get 22 = some (tiN 22) := by kernel_rfl
theorem tis22 : (tiN 22).size = 1 := by kernel_rfl
theorem tia22 : (tiN 22).isAgg = false := by kernel_rfl
theorem ld22 (X : T Ext) (l : List D) (o : Nat) : loadD (En X) 22 l o = ldC l o := loadD_one (tab22 X) tis22 tia22 l o
theorem ldh22 (X : T Ext) (look : Look) (b o : Nat) : load (En X) 22 look b o = ldHC look b o := load_one (tab22 X) tis22 tia22 look b o
theorem tab61 (X : T Ext) : (En X).tab.get 61 = some (tiN 61) := by kernel_rfl
theorem tis61 : (tiN 61).size = 2 := by kernel_rfl
theorem tia61 : (tiN 61).isAgg = true := by kernel_rfl
theorem ld61 (X : T Ext) (l : List D) (o : Nat) : loadD (En X) 61 l o = ldA 2 l o := loadD_agg (tab61 X) tis61 tia61 l o
theorem ldh61 (X : T Ext) (look : Look) (b o : Nat) : load (En X) 61 look b o = ldHA 2 look b o := load_agg (tab61 X) tis61 tia61 look b o
theorem tab43 (X : T Ext) : (En X).tab.get 43 = some (tiN 43) := by kernel_rfl
theorem tis43 : (tiN 43).size = 2 := by kernel_rfl
theorem tia43 : (tiN 43).isAgg = true := by kernel_rfl
theorem ld43 (X : T Ext) (l : List D) (o : Nat) : loadD (En X) 43 l o = ldA 2 l o := loadD_agg (tab43 X) tis43 tia43 l o
theorem ldh43 (X : T Ext) (look : Look) (b o : Nat) : load (En X) 43 look b o = ldHA 2 look b o := load_agg (tab43 X) tis43 tia43 look b o
end Br
