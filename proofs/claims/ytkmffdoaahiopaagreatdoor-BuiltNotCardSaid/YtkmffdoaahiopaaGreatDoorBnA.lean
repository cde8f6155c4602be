import Derived.Test.YtkmffdoaahiopaaGreatDoorEwG
import Derived.Test.YtkmffdoaahiopaaGreatDoorProg
import Derived.KernelRfl
namespace Bn
open Go Go.Proofs Ev
def kps : List (Nat × Nat) := [(2, 1), (3, 35184385229917), (4, 577595450451564275), (5, 75497615), (6, 5), (7, 2656331146898282414023), (8, 572049351), (9, 2571380766355765890621236185847), (10, 45), (11, 158461160732383612598032048125), (12, 147), (13, 17597), (14, 435), (15, 2291), (16, 10487), (17, 131159), (18, 275146359159), (19, 68857922295), (20, 4194483), (21, 65911), (22, 4202871), (23, 1030242934247411), (24, 262341), (25, 147), (26, 147), (27, 8397255), (28, 307), (29, 8742045943), (30, 24859446678980235670963), (31, 133), (32, 135299293), (33, 656191), (34, 16719), (35, 2343), (36, 2279), (37, 7), (38, 604508359), (39, 288248243249348851), (40, 8531), (41, 147), (42, 539168711), (43, 1121071012895), (44, 70369817931719), (45, 279), (46, 1395), (47, 288265561061199863), (48, 5171), (49, 17047587), (50, 278707), (51, 12421), (52, 5), (53, 21), (54, 109), (55, 157), (56, 25095), (57, 1074307543), (58, 133), (59, 133), (60, 70369817931719), (61, 1327), (62, 576460752305002483), (63, 36028797019068403), (64, 174224577096382171037739960777314905735155), (65, 187072209581261271206726987124361732537557266448327), (66, 1171), (67, 1171), (68, 43591), (69, 43591), (70, 5), (71, 281612957003719), (72, 37191119322291983), (73, 1025), (74, 33825299), (75, 627), (76, 10217992290702300886440887239), (77, 147), (79, 5), (80, 8796093163507), (81, 5), (82, 1218370562159455504433341), (83, 201005), (84, 37), (85, 21), (86, 4229), (87, 133), (88, 10217992290702300886440887239), (91, 525555), (93, 579), (95, 8391165), (96, 21), (97, 147), (99, 579), (100, 10371), (101, 1125904336552947), (102, 4613585795827699), (103, 10371), (104, 45), (105, 5), (106, 8301), (107, 393203), (108, 316912650057057350528795147295), (109, 61447984286128824476406153834618308375617927833625690099), (110, 5), (111, 317), (112, 19), (113, 45), (114, 5), (115, 5), (116, 5), (117, 5), (118, 165), (119, 147), (120, 1037), (121, 5), (122, 5), (156, 16408)]
set_option maxRecDepth 1000000
noncomputable def En (X : T Ext) : Env := { tab := tabT Tryz.prog Tryz.prog.types.toList 0 .nil, fns := T.ofL Tryz.prog.funcs.toList, ext := X, kps := pairT kps .nil }
theorem En_of (exts : List (Nat × Ext)) : envOf Tryz.prog exts kps = En (pairT exts .nil) := rfl
noncomputable def tiN (t : Nat) : TI := match (En .nil).tab.get t with
  | some i => i
  | none => ⟨0, 0, none, .bool, false⟩
theorem fn3 (X : T Ext) : (En X).fns.get 3 = some Tryz.f3 := by kernel_rfl
theorem kp3 (X : T Ext) : (En X).kps.get 3 = some 35184385229917 := by kernel_rfl
theorem us22 (X : T Ext) : undT (En X) 22 = some (.slice 9) := by kernel_rfl
theorem sz9 (X : T Ext) : sizeT (En X) 9 = some 1 := by kernel_rfl
theorem uint3 (X : T Ext) : undT (En X) 3 = some (.int .i64) := by kernel_rfl
theorem bS22_1 (X : T Ext) (id : Nat) (x0_0 : C) : buildSlice (En X) 22 1 [(0, (.c x0_0))] id = some (vc (.sl id 0 1 (some 1) 1), .row (mkRow [x0_0])) := by kernel_rfl
theorem el22 (X : T Ext) : elemTI (En X) 22 = some (tiN 9) := by kernel_rfl
theorem ti9 : (tiN 9).size = 1 ∧ (tiN 9).bytes = 16 := ⟨by kernel_rfl, by kernel_rfl⟩
theorem fn4 (X : T Ext) : (En X).fns.get 4 = some Tryz.f4 := by kernel_rfl
theorem kp4 (X : T Ext) : (En X).kps.get 4 = some 577595450451564275 := by kernel_rfl
theorem ustr9 (X : T Ext) : undT (En X) 9 = some .string := by kernel_rfl
theorem fn6 (X : T Ext) : (En X).fns.get 6 = some Tryz.f6 := by kernel_rfl
theorem kp6 (X : T Ext) : (En X).kps.get 6 = some 5 := by kernel_rfl
theorem fn7 (X : T Ext) : (En X).fns.get 7 = some Tryz.f7 := by kernel_rfl
theorem kp7 (X : T Ext) : (En X).kps.get 7 = some 2656331146898282414023 := by kernel_rfl
theorem uint2 (X : T Ext) : undT (En X) 2 = some (.int .i64) := by kernel_rfl
theorem us52 (X : T Ext) : undT (En X) 52 = some (.slice 4) := by kernel_rfl
theorem sz4 (X : T Ext) : sizeT (En X) 4 = some 1 := by kernel_rfl
theorem bS52_6 (X : T Ext) (id : Nat) (x0_0 x1_0 x2_0 x3_0 x4_0 x5_0 : C) : buildSlice (En X) 52 6 [(0, (.c x0_0)), (1, (.c x1_0)), (2, (.c x2_0)), (3, (.c x3_0)), (4, (.c x4_0)), (5, (.c x5_0))] id = some (vc (.sl id 0 6 (some 6) 1), .row (mkRow [x0_0, x1_0, x2_0, x3_0, x4_0, x5_0])) := by kernel_rfl
theorem fn8 (X : T Ext) : (En X).fns.get 8 = some Tryz.f8 := by kernel_rfl
theorem kp8 (X : T Ext) : (En X).kps.get 8 = some 572049351 := by kernel_rfl
theorem fn12 (X : T Ext) : (En X).fns.get 12 = some Tryz.f12 := by kernel_rfl
theorem kp12 (X : T Ext) : (En X).kps.get 12 = some 147 := by kernel_rfl
theorem fn14 (X : T Ext) : (En X).fns.get 14 = some Tryz.f14 := by kernel_rfl
theorem kp14 (X : T Ext) : (En X).kps.get 14 = some 435 := by kernel_rfl
theorem fn13 (X : T Ext) : (En X).fns.get 13 = some Tryz.f13 := by kernel_rfl
theorem kp13 (X : T Ext) : (En X).kps.get 13 = some 17597 := by kernel_rfl
theorem fn25 (X : T Ext) : (En X).fns.get 25 = some Tryz.f25 := by kernel_rfl
theorem kp25 (X : T Ext) : (En X).kps.get 25 = some 147 := by kernel_rfl
theorem fn26 (X : T Ext) : (En X).fns.get 26 = some Tryz.f26 := by kernel_rfl
theorem kp26 (X : T Ext) : (En X).kps.get 26 = some 147 := by kernel_rfl
theorem fn27 (X : T Ext) : (En X).fns.get 27 = some Tryz.f27 := by kernel_rfl
theorem kp27 (X : T Ext) : (En X).kps.get 27 = some 8397255 := by kernel_rfl
theorem fn40 (X : T Ext) : (En X).fns.get 40 = some Tryz.f40 := by kernel_rfl
theorem kp40 (X : T Ext) : (En X).kps.get 40 = some 8531 := by kernel_rfl
theorem fn41 (X : T Ext) : (En X).fns.get 41 = some Tryz.f41 := by kernel_rfl
theorem kp41 (X : T Ext) : (En X).kps.get 41 = some 147 := by kernel_rfl
theorem fn43 (X : T Ext) : (En X).fns.get 43 = some Tryz.f43 := by kernel_rfl
theorem kp43 (X : T Ext) : (En X).kps.get 43 = some 1121071012895 := by kernel_rfl
theorem fn64 (X : T Ext) : (En X).fns.get 64 = some Tryz.f64 := by kernel_rfl
theorem kp64 (X : T Ext) : (En X).kps.get 64 = some 174224577096382171037739960777314905735155 := by kernel_rfl
theorem uint5 (X : T Ext) : undT (En X) 5 = some (.int .u8) := by kernel_rfl
theorem fn66 (X : T Ext) : (En X).fns.get 66 = some Tryz.f66 := by kernel_rfl
theorem kp66 (X : T Ext) : (En X).kps.get 66 = some 1171 := by kernel_rfl
theorem fn67 (X : T Ext) : (En X).fns.get 67 = some Tryz.f67 := by kernel_rfl
theorem kp67 (X : T Ext) : (En X).kps.get 67 = some 1171 := by kernel_rfl
theorem fn77 (X : T Ext) : (En X).fns.get 77 = some Tryz.f77 := by kernel_rfl
theorem kp77 (X : T Ext) : (En X).kps.get 77 = some 147 := by kernel_rfl
theorem tab9 (X : T Ext) : (En X).tab.get 9 = some (tiN 9) := by kernel_rfl
theorem tis9 : (tiN 9).size = 1 := by kernel_rfl
theorem tia9 : (tiN 9).isAgg = false := by kernel_rfl
theorem ld9 (X : T Ext) (l : List D) (o : Nat) : loadD (En X) 9 l o = ldC l o := loadD_one (tab9 X) tis9 tia9 l o
theorem ldh9 (X : T Ext) (look : Look) (b o : Nat) : load (En X) 9 look b o = ldHC look b o := load_one (tab9 X) tis9 tia9 look b o
theorem tab4 (X : T Ext) : (En X).tab.get 4 = some (tiN 4) := by kernel_rfl
theorem tis4 : (tiN 4).size = 1 := by kernel_rfl
theorem tia4 : (tiN 4).isAgg = false := by kernel_rfl
theorem ld4 (X : T Ext) (l : List D) (o : Nat) : loadD (En X) 4 l o = ldC l o := loadD_one (tab4 X) tis4 tia4 l o
theorem ldh4 (X : T Ext) (look : Look) (b o : Nat) : load (En X) 4 look b o = ldHC look b o := load_one (tab4 X) tis4 tia4 look b o
theorem tab3 (X : T Ext) : (En X).tab.get 3 = some (tiN 3) := by kernel_rfl
theorem tis3 : (tiN 3).size = 1 := by kernel_rfl
theorem tia3 : (tiN 3).isAgg = false := by kernel_rfl
theorem ld3 (X : T Ext) (l : List D) (o : Nat) : loadD (En X) 3 l o = ldC l o := loadD_one (tab3 X) tis3 tia3 l o
theorem ldh3 (X : T Ext) (look : Look) (b o : Nat) : load (En X) 3 look b o = ldHC look b o := load_one (tab3 X) tis3 tia3 look b o
theorem tab66 (X : T Ext) : (En X).tab.get 66 = some (tiN 66) := by kernel_rfl
theorem tis66 : (tiN 66).size = 1 := by kernel_rfl
theorem tia66 : (tiN 66).isAgg = false := by kernel_rfl
theorem ld66 (X : T Ext) (l : List D) (o : Nat) : loadD (En X) 66 l o = ldC l o := loadD_one (tab66 X) tis66 tia66 l o
theorem ldh66 (X : T Ext) (look : Look) (b o : Nat) : load (En X) 66 look b o = ldHC look b o := load_one (tab66 X) tis66 tia66 look b o
end Bn
