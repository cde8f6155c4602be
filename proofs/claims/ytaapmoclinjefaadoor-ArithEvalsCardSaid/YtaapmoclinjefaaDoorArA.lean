import Derived.Test.YtaapmoclinjefaaDoorEwG
import Derived.Test.YtaapmoclinjefaaDoorProg
import Derived.KernelRfl
namespace Ar
open Go Go.Proofs Ev
def kps : List (Nat × Nat) := [(2, 1), (3, 274946082291), (4, 81129638414606686344666438189043), (5, 18446744349665466355), (6, 2147570675), (7, 17725171955), (8, 4383), (9, 17413), (10, 295517), (11, 129), (12, 19352258135594232244089331), (13, 11656375506135405), (14, 2199040034821), (15, 17597), (16, 16397), (17, 18890845), (18, 135270227), (19, 77611434099), (20, 33555063), (21, 13), (22, 675365106681885568251890028412666823), (23, 6480557), (24, 4504699147518035), (25, 5), (26, 5), (27, 147), (28, 147), (29, 8397255), (30, 18890845), (31, 83), (32, 317), (33, 2131), (34, 135539), (35, 65971), (36, 15), (37, 115), (38, 1659036333), (39, 71), (40, 71), (41, 8531), (42, 147), (43, 539168711), (44, 1121071012895), (45, 599563828219485437), (46, 19), (47, 65549), (48, 147), (49, 3065014465759368977879497220083123194668484629275272701), (50, 199), (51, 524559), (52, 174224577096382171037739960777314905735155), (53, 187072209581261271206726987124361732537557266448327), (54, 1171), (55, 1171), (56, 43591), (57, 43591), (58, 33075), (59, 5), (60, 51), (61, 37), (62, 21), (63, 135299293), (64, 24573), (65, 61447984286128824476406153834618308375617927833625690099), (66, 4690104811709), (67, 21), (68, 2165441117), (69, 35184372097267), (70, 147), (72, 5), (73, 8796093163507), (74, 5), (75, 1218370562159455504433341), (76, 201005), (77, 37), (78, 21), (79, 5), (80, 109), (81, 147), (82, 1037), (83, 637), (84, 637), (85, 5), (86, 133309), (88, 8391165), (89, 21), (90, 1125904336552947), (91, 5), (92, 8301), (93, 393203), (94, 316912650057057350528795147295), (95, 5), (96, 5), (97, 5), (98, 5), (99, 165), (100, 5), (101, 5), (131, 1536)]
set_option maxRecDepth 1000000
noncomputable def En (X : T Ext) : Env := { tab := tabT Tryd.prog Tryd.prog.types.toList 0 .nil, fns := T.ofL Tryd.prog.funcs.toList, ext := X, kps := pairT kps .nil }
theorem En_of (exts : List (Nat × Ext)) : envOf Tryd.prog exts kps = En (pairT exts .nil) := rfl
noncomputable def tiN (t : Nat) : TI := match (En .nil).tab.get t with
  | some i => i
  | none => ⟨0, 0, none, .bool, false⟩
theorem fn4 (X : T Ext) : (En X).fns.get 4 = some Tryd.f4 := by kernel_rfl
theorem kp4 (X : T Ext) : (En X).kps.get 4 = some 81129638414606686344666438189043 := by kernel_rfl
theorem uint2 (X : T Ext) : undT (En X) 2 = some (.int .i64) := by kernel_rfl
theorem us22 (X : T Ext) : undT (En X) 22 = some (.slice 32) := by kernel_rfl
theorem sz32 (X : T Ext) : sizeT (En X) 32 = some 2 := by kernel_rfl
theorem bS22_2 (X : T Ext) (id : Nat) (x0_0 x0_1 x1_0 x1_1 : C) : buildSlice (En X) 22 2 [(0, (.agg [x0_0, x0_1])), (1, (.agg [x1_0, x1_1]))] id = some (vc (.sl id 0 2 (some 2) 2), .row (mkRow [x0_0, x0_1, x1_0, x1_1])) := by kernel_rfl
theorem uint23 (X : T Ext) : undT (En X) 23 = some (.int .i64) := by kernel_rfl
theorem ubool4 (X : T Ext) : undT (En X) 4 = some .bool := by kernel_rfl
theorem fn5 (X : T Ext) : (En X).fns.get 5 = some Tryd.f5 := by kernel_rfl
theorem kp5 (X : T Ext) : (En X).kps.get 5 = some 18446744349665466355 := by kernel_rfl
theorem ustr9 (X : T Ext) : undT (En X) 9 = some .string := by kernel_rfl
theorem uint3 (X : T Ext) : undT (En X) 3 = some (.int .i64) := by kernel_rfl
theorem fn6 (X : T Ext) : (En X).fns.get 6 = some Tryd.f6 := by kernel_rfl
theorem kp6 (X : T Ext) : (En X).kps.get 6 = some 2147570675 := by kernel_rfl
theorem fA_36_1 (X : T Ext) (b o : Nat) : fieldAddr (En X) 36 b o 1 = some (.ptr b (o + 1)) := fA_of (by kernel_rfl) b o
theorem fD_36_1 (X : T Ext) (l : List D) (o : Nat) : fieldAddrD (En X) 36 l o 1 = some (.dp l (o + 1)) := by kernel_rfl
theorem fA_36_0 (X : T Ext) (b o : Nat) : fieldAddr (En X) 36 b o 0 = some (.ptr b (o + 0)) := fA_of (by kernel_rfl) b o
theorem fD_36_0 (X : T Ext) (l : List D) (o : Nat) : fieldAddrD (En X) 36 l o 0 = some (.dp l (o + 0)) := by kernel_rfl
theorem fn9 (X : T Ext) : (En X).fns.get 9 = some Tryd.f9 := by kernel_rfl
theorem kp9 (X : T Ext) : (En X).kps.get 9 = some 17413 := by kernel_rfl
theorem uint48 (X : T Ext) : undT (En X) 48 = some (.int .u64) := by kernel_rfl
theorem isNew48 (X : T Ext) : isNew (En X) 48 = false := by kernel_rfl
theorem fn10 (X : T Ext) : (En X).fns.get 10 = some Tryd.f10 := by kernel_rfl
theorem kp10 (X : T Ext) : (En X).kps.get 10 = some 295517 := by kernel_rfl
theorem us66 (X : T Ext) : undT (En X) 66 = some (.slice 9) := by kernel_rfl
theorem sz9 (X : T Ext) : sizeT (En X) 9 = some 1 := by kernel_rfl
theorem bS66_6 (X : T Ext) (id : Nat) (x0_0 x1_0 x2_0 x3_0 x4_0 x5_0 : C) : buildSlice (En X) 66 6 [(0, (.c x0_0)), (1, (.c x1_0)), (2, (.c x2_0)), (3, (.c x3_0)), (4, (.c x4_0)), (5, (.c x5_0))] id = some (vc (.sl id 0 6 (some 6) 1), .row (mkRow [x0_0, x1_0, x2_0, x3_0, x4_0, x5_0])) := by kernel_rfl
theorem us50 (X : T Ext) : undT (En X) 50 = some (.slice 37) := by kernel_rfl
theorem sz37 (X : T Ext) : sizeT (En X) 37 = some 1 := by kernel_rfl
theorem bS50_2 (X : T Ext) (id : Nat) (x0_0 x1_0 : C) : buildSlice (En X) 50 2 [(0, (.c x0_0)), (1, (.c x1_0))] id = some (vc (.sl id 0 2 (some 2) 1), .row (mkRow [x0_0, x1_0])) := by kernel_rfl
theorem fn11 (X : T Ext) : (En X).fns.get 11 = some Tryd.f11 := by kernel_rfl
theorem kp11 (X : T Ext) : (En X).kps.get 11 = some 129 := by kernel_rfl
theorem fn12 (X : T Ext) : (En X).fns.get 12 = some Tryd.f12 := by kernel_rfl
theorem kp12 (X : T Ext) : (En X).kps.get 12 = some 19352258135594232244089331 := by kernel_rfl
theorem fA_52_0 (X : T Ext) (b o : Nat) : fieldAddr (En X) 52 b o 0 = some (.ptr b (o + 0)) := fA_of (by kernel_rfl) b o
theorem fD_52_0 (X : T Ext) (l : List D) (o : Nat) : fieldAddrD (En X) 52 l o 0 = some (.dp l (o + 0)) := by kernel_rfl
theorem fA_52_1 (X : T Ext) (b o : Nat) : fieldAddr (En X) 52 b o 1 = some (.ptr b (o + 1)) := fA_of (by kernel_rfl) b o
theorem fD_52_1 (X : T Ext) (l : List D) (o : Nat) : fieldAddrD (En X) 52 l o 1 = some (.dp l (o + 1)) := by kernel_rfl
theorem fA_52_2 (X : T Ext) (b o : Nat) : fieldAddr (En X) 52 b o 2 = some (.ptr b (o + 2)) := fA_of (by kernel_rfl) b o
theorem fD_52_2 (X : T Ext) (l : List D) (o : Nat) : fieldAddrD (En X) 52 l o 2 = some (.dp l (o + 2)) := by kernel_rfl
theorem fn15 (X : T Ext) : (En X).fns.get 15 = some Tryd.f15 := by kernel_rfl
theorem kp15 (X : T Ext) : (En X).kps.get 15 = some 17597 := by kernel_rfl
theorem fn16 (X : T Ext) : (En X).fns.get 16 = some Tryd.f16 := by kernel_rfl
theorem kp16 (X : T Ext) : (En X).kps.get 16 = some 16397 := by kernel_rfl
theorem uint5 (X : T Ext) : undT (En X) 5 = some (.int .u8) := by kernel_rfl
theorem isNew5 (X : T Ext) : isNew (En X) 5 = false := by kernel_rfl
theorem us65 (X : T Ext) : undT (En X) 65 = some (.slice 5) := by kernel_rfl
theorem sz5 (X : T Ext) : sizeT (En X) 5 = some 1 := by kernel_rfl
theorem bS65_1 (X : T Ext) (id : Nat) (x0_0 : C) : buildSlice (En X) 65 1 [(0, (.c x0_0))] id = some (vc (.sl id 0 1 (some 1) 1), .row (mkRow [x0_0])) := by kernel_rfl
theorem isNew9 (X : T Ext) : isNew (En X) 9 = false := by kernel_rfl
theorem fn17 (X : T Ext) : (En X).fns.get 17 = some Tryd.f17 := by kernel_rfl
theorem kp17 (X : T Ext) : (En X).kps.get 17 = some 18890845 := by kernel_rfl
theorem bS66_2 (X : T Ext) (id : Nat) (x0_0 x1_0 : C) : buildSlice (En X) 66 2 [(0, (.c x0_0)), (1, (.c x1_0))] id = some (vc (.sl id 0 2 (some 2) 1), .row (mkRow [x0_0, x1_0])) := by kernel_rfl
theorem fn18 (X : T Ext) : (En X).fns.get 18 = some Tryd.f18 := by kernel_rfl
theorem kp18 (X : T Ext) : (En X).kps.get 18 = some 135270227 := by kernel_rfl
theorem fn19 (X : T Ext) : (En X).fns.get 19 = some Tryd.f19 := by kernel_rfl
theorem kp19 (X : T Ext) : (En X).kps.get 19 = some 77611434099 := by kernel_rfl
theorem al69 (X : T Ext) (id : Nat) : nAlloc (En X) 69 id = some (vc (.ptr id 0), .row (mkRow [.bool false, .bool false, .bool false, .bool false, .bool false, .bool false, .bool false, .bool false, .bool false, .bool false, .bool false, .bool false, .bool false, .bool false, .bool false, .bool false, .bool false, .bool false, .bool false, .bool false, .bool false, .bool false, .bool false, .bool false, .bool false, .bool false, .bool false, .bool false, .bool false, .bool false, .bool false, .bool false, .bool false, .bool false, .bool false, .bool false, .bool false, .bool false, .bool false, .bool false, .bool false, .bool false, .bool false, .bool false, .bool false, .bool false, .bool false, .bool false, .bool false, .bool false, .bool false, .bool false, .bool false, .bool false, .bool false, .bool false, .bool false, .bool false, .bool false, .bool false, .bool false, .bool false, .bool false, .bool false, .bool false, .bool false, .bool false, .bool false, .bool false, .bool false, .bool false, .bool false, .bool false, .bool false, .bool false, .bool false, .bool false, .bool false, .bool false, .bool false, .bool false, .bool false, .bool false, .bool false, .bool false, .bool false, .bool false, .bool false, .bool false, .bool false, .bool false, .bool false, .bool false, .bool false, .bool false, .bool false, .bool false, .bool false, .bool false, .bool false, .bool false, .bool false, .bool false, .bool false, .bool false, .bool false, .bool false, .bool false, .bool false, .bool false, .bool false, .bool false, .bool false, .bool false, .bool false, .bool false, .bool false, .bool false, .bool false, .bool false, .bool false, .bool false, .bool false, .bool false, .bool false, .bool false, .bool false, .bool false, .bool false, .bool false, .bool false, .bool false, .bool false, .bool false, .bool false, .bool false, .bool false, .bool false, .bool false, .bool false, .bool false, .bool false, .bool false, .bool false, .bool false, .bool false, .bool false, .bool false, .bool false, .bool false, .bool false, .bool false, .bool false, .bool false, .bool false, .bool false, .bool false, .bool false, .bool false, .bool false, .bool false, .bool false, .bool false, .bool false, .bool false, .bool false, .bool false, .bool false, .bool false, .bool false, .bool false, .bool false, .bool false, .bool false, .bool false, .bool false, .bool false, .bool false, .bool false, .bool false, .bool false, .bool false, .bool false, .bool false, .bool false, .bool false, .bool false, .bool false, .bool false, .bool false, .bool false, .bool false, .bool false, .bool false, .bool false, .bool false, .bool false, .bool false, .bool false, .bool false, .bool false, .bool false, .bool false, .bool false, .bool false, .bool false, .bool false, .bool false, .bool false, .bool false, .bool false, .bool false, .bool false, .bool false, .bool false, .bool false, .bool false, .bool false, .bool false, .bool false, .bool false, .bool false, .bool false, .bool false, .bool false, .bool false, .bool false, .bool false, .bool false, .bool false, .bool false, .bool false, .bool false, .bool false, .bool false, .bool false, .bool false, .bool false, .bool false, .bool false, .bool false, .bool false, .bool false, .bool false, .bool false, .bool false, .bool false, .bool false, .bool false, .bool false, .bool false, .bool false, .bool false, .bool false, .bool false, .bool false])) := by kernel_rfl
theorem fn20 (X : T Ext) : (En X).fns.get 20 = some Tryd.f20 := by kernel_rfl
theorem kp20 (X : T Ext) : (En X).kps.get 20 = some 33555063 := by kernel_rfl
theorem fA_32_1 (X : T Ext) (b o : Nat) : fieldAddr (En X) 32 b o 1 = some (.ptr b (o + 1)) := fA_of (by kernel_rfl) b o
theorem fD_32_1 (X : T Ext) (l : List D) (o : Nat) : fieldAddrD (En X) 32 l o 1 = some (.dp l (o + 1)) := by kernel_rfl
theorem fn21 (X : T Ext) : (En X).fns.get 21 = some Tryd.f21 := by kernel_rfl
theorem kp21 (X : T Ext) : (En X).kps.get 21 = some 13 := by kernel_rfl
theorem fn22 (X : T Ext) : (En X).fns.get 22 = some Tryd.f22 := by kernel_rfl
theorem kp22 (X : T Ext) : (En X).kps.get 22 = some 675365106681885568251890028412666823 := by kernel_rfl
theorem fn27 (X : T Ext) : (En X).fns.get 27 = some Tryd.f27 := by kernel_rfl
theorem kp27 (X : T Ext) : (En X).kps.get 27 = some 147 := by kernel_rfl
theorem fn28 (X : T Ext) : (En X).fns.get 28 = some Tryd.f28 := by kernel_rfl
theorem kp28 (X : T Ext) : (En X).kps.get 28 = some 147 := by kernel_rfl
theorem fn29 (X : T Ext) : (En X).fns.get 29 = some Tryd.f29 := by kernel_rfl
theorem kp29 (X : T Ext) : (En X).kps.get 29 = some 8397255 := by kernel_rfl
theorem fn30 (X : T Ext) : (En X).fns.get 30 = some Tryd.f30 := by kernel_rfl
theorem kp30 (X : T Ext) : (En X).kps.get 30 = some 18890845 := by kernel_rfl
theorem bS66_3 (X : T Ext) (id : Nat) (x0_0 x1_0 x2_0 : C) : buildSlice (En X) 66 3 [(0, (.c x0_0)), (1, (.c x1_0)), (2, (.c x2_0))] id = some (vc (.sl id 0 3 (some 3) 1), .row (mkRow [x0_0, x1_0, x2_0])) := by kernel_rfl
theorem fn32 (X : T Ext) : (En X).fns.get 32 = some Tryd.f32 := by kernel_rfl
theorem kp32 (X : T Ext) : (En X).kps.get 32 = some 317 := by kernel_rfl
theorem ua69 (X : T Ext) : undT (En X) 69 = some (.array 256 4) := by kernel_rfl
theorem sz4 (X : T Ext) : sizeT (En X) 4 = some 1 := by kernel_rfl
theorem fn33 (X : T Ext) : (En X).fns.get 33 = some Tryd.f33 := by kernel_rfl
theorem kp33 (X : T Ext) : (En X).kps.get 33 = some 2131 := by kernel_rfl
theorem fn35 (X : T Ext) : (En X).fns.get 35 = some Tryd.f35 := by kernel_rfl
theorem kp35 (X : T Ext) : (En X).kps.get 35 = some 65971 := by kernel_rfl
theorem fn36 (X : T Ext) : (En X).fns.get 36 = some Tryd.f36 := by kernel_rfl
theorem kp36 (X : T Ext) : (En X).kps.get 36 = some 15 := by kernel_rfl
theorem fA_32_0 (X : T Ext) (b o : Nat) : fieldAddr (En X) 32 b o 0 = some (.ptr b (o + 0)) := fA_of (by kernel_rfl) b o
theorem fD_32_0 (X : T Ext) (l : List D) (o : Nat) : fieldAddrD (En X) 32 l o 0 = some (.dp l (o + 0)) := by kernel_rfl
theorem fn37 (X : T Ext) : (En X).fns.get 37 = some Tryd.f37 := by kernel_rfl
theorem kp37 (X : T Ext) : (En X).kps.get 37 = some 115 := by kernel_rfl
theorem fn41 (X : T Ext) : (En X).fns.get 41 = some Tryd.f41 := by kernel_rfl
theorem kp41 (X : T Ext) : (En X).kps.get 41 = some 8531 := by kernel_rfl
theorem fn42 (X : T Ext) : (En X).fns.get 42 = some Tryd.f42 := by kernel_rfl
theorem kp42 (X : T Ext) : (En X).kps.get 42 = some 147 := by kernel_rfl
theorem fn44 (X : T Ext) : (En X).fns.get 44 = some Tryd.f44 := by kernel_rfl
theorem kp44 (X : T Ext) : (En X).kps.get 44 = some 1121071012895 := by kernel_rfl
theorem fn45 (X : T Ext) : (En X).fns.get 45 = some Tryd.f45 := by kernel_rfl
theorem kp45 (X : T Ext) : (En X).kps.get 45 = some 599563828219485437 := by kernel_rfl
theorem bS50_1 (X : T Ext) (id : Nat) (x0_0 : C) : buildSlice (En X) 50 1 [(0, (.c x0_0))] id = some (vc (.sl id 0 1 (some 1) 1), .row (mkRow [x0_0])) := by kernel_rfl
theorem bS66_1 (X : T Ext) (id : Nat) (x0_0 : C) : buildSlice (En X) 66 1 [(0, (.c x0_0))] id = some (vc (.sl id 0 1 (some 1) 1), .row (mkRow [x0_0])) := by kernel_rfl
theorem fn46 (X : T Ext) : (En X).fns.get 46 = some Tryd.f46 := by kernel_rfl
theorem kp46 (X : T Ext) : (En X).kps.get 46 = some 19 := by kernel_rfl
theorem fn52 (X : T Ext) : (En X).fns.get 52 = some Tryd.f52 := by kernel_rfl
theorem kp52 (X : T Ext) : (En X).kps.get 52 = some 174224577096382171037739960777314905735155 := by kernel_rfl
theorem fn54 (X : T Ext) : (En X).fns.get 54 = some Tryd.f54 := by kernel_rfl
theorem kp54 (X : T Ext) : (En X).kps.get 54 = some 1171 := by kernel_rfl
theorem fn55 (X : T Ext) : (En X).fns.get 55 = some Tryd.f55 := by kernel_rfl
theorem kp55 (X : T Ext) : (En X).kps.get 55 = some 1171 := by kernel_rfl
theorem fn58 (X : T Ext) : (En X).fns.get 58 = some Tryd.f58 := by kernel_rfl
theorem kp58 (X : T Ext) : (En X).kps.get 58 = some 33075 := by kernel_rfl
theorem fn59 (X : T Ext) : (En X).fns.get 59 = some Tryd.f59 := by kernel_rfl
theorem kp59 (X : T Ext) : (En X).kps.get 59 = some 5 := by kernel_rfl
theorem fn60 (X : T Ext) : (En X).fns.get 60 = some Tryd.f60 := by kernel_rfl
theorem kp60 (X : T Ext) : (En X).kps.get 60 = some 51 := by kernel_rfl
theorem fn61 (X : T Ext) : (En X).fns.get 61 = some Tryd.f61 := by kernel_rfl
theorem kp61 (X : T Ext) : (En X).kps.get 61 = some 37 := by kernel_rfl
theorem uint21 (X : T Ext) : undT (En X) 21 = some (.int .i32) := by kernel_rfl
theorem isNew21 (X : T Ext) : isNew (En X) 21 = false := by kernel_rfl
theorem fn62 (X : T Ext) : (En X).fns.get 62 = some Tryd.f62 := by kernel_rfl
theorem kp62 (X : T Ext) : (En X).kps.get 62 = some 21 := by kernel_rfl
theorem fn63 (X : T Ext) : (En X).fns.get 63 = some Tryd.f63 := by kernel_rfl
theorem kp63 (X : T Ext) : (En X).kps.get 63 = some 135299293 := by kernel_rfl
theorem fn70 (X : T Ext) : (En X).fns.get 70 = some Tryd.f70 := by kernel_rfl
theorem kp70 (X : T Ext) : (En X).kps.get 70 = some 147 := by kernel_rfl
theorem fn79 (X : T Ext) : (En X).fns.get 79 = some Tryd.f79 := by kernel_rfl
theorem kp79 (X : T Ext) : (En X).kps.get 79 = some 5 := by kernel_rfl
theorem fn80 (X : T Ext) : (En X).fns.get 80 = some Tryd.f80 := by kernel_rfl
theorem kp80 (X : T Ext) : (En X).kps.get 80 = some 109 := by kernel_rfl
theorem tab4 (X : T Ext) : (En X).tab.get 4 = some (tiN 4) := by kernel_rfl
theorem tis4 : (tiN 4).size = 1 := by kernel_rfl
theorem tia4 : (tiN 4).isAgg = false := by kernel_rfl
theorem ld4 (X : T Ext) (l : List D) (o : Nat) : loadD (En X) 4 l o = ldC l o := loadD_one (tab4 X) tis4 tia4 l o
theorem ldh4 (X : T Ext) (look : Look) (b o : Nat) : load (En X) 4 look b o = ldHC look b o := load_one (tab4 X) tis4 tia4 look b o
theorem tab9 (X : T Ext) : (En X).tab.get 9 = some (tiN 9) := by kernel_rfl
theorem tis9 : (tiN 9).size = 1 := by kernel_rfl
theorem tia9 : (tiN 9).isAgg = false := by kernel_rfl
theorem ld9 (X : T Ext) (l : List D) (o : Nat) : loadD (En X) 9 l o = ldC l o := loadD_one (tab9 X) tis9 tia9 l o
theorem ldh9 (X : T Ext) (look : Look) (b o : Nat) : load (En X) 9 look b o = ldHC look b o := load_one (tab9 X) tis9 tia9 look b o
theorem tab50 (X : T Ext) : (En X).tab.get 50 = some (tiN 50) := by kernel_rfl
theorem tis50 : (tiN 50).size = 1 := by kernel_rfl
theorem tia50 : (tiN 50).isAgg = false := by kernel_rfl
theorem ld50 (X : T Ext) (l : List D) (o : Nat) : loadD (En X) 50 l o = ldC l o := loadD_one (tab50 X) tis50 tia50 l o
theorem ldh50 (X : T Ext) (look : Look) (b o : Nat) : load (En X) 50 look b o = ldHC look b o := load_one (tab50 X) tis50 tia50 look b o
theorem tab37 (X : T Ext) : (En X).tab.get 37 = some (tiN 37) := by kernel_rfl
theorem tis37 : (tiN 37).size = 1 := by kernel_rfl
theorem tia37 : (tiN 37).isAgg = false := by kernel_rfl
theorem ld37 (X : T Ext) (l : List D) (o : Nat) : loadD (En X) 37 l o = ldC l o := loadD_one (tab37 X) tis37 tia37 l o
theorem ldh37 (X : T Ext) (look : Look) (b o : Nat) : load (En X) 37 look b o = ldHC look b o := load_one (tab37 X) tis37 tia37 look b o
theorem tab69 (X : T Ext) : (En X).tab.get 69 = some (tiN 69) := by kernel_rfl
theorem tis69 : (tiN 69).size = 256 := by kernel_rfl
theorem tia69 : (tiN 69).isAgg = true := by kernel_rfl
theorem ld69 (X : T Ext) (l : List D) (o : Nat) : loadD (En X) 69 l o = ldA 256 l o := loadD_agg (tab69 X) tis69 tia69 l o
theorem ldh69 (X : T Ext) (look : Look) (b o : Nat) : load (En X) 69 look b o = ldHA 256 look b o := load_agg (tab69 X) tis69 tia69 look b o
theorem tab32 (X : T Ext) : (En X).tab.get 32 = some (tiN 32) := by kernel_rfl
theorem tis32 : (tiN 32).size = 2 := by kernel_rfl
theorem tia32 : (tiN 32).isAgg = true := by kernel_rfl
theorem ld32 (X : T Ext) (l : List D) (o : Nat) : loadD (En X) 32 l o = ldA 2 l o := loadD_agg (tab32 X) tis32 tia32 l o
theorem ldh32 (X : T Ext) (look : Look) (b o : Nat) : load (En X) 32 look b o = ldHA 2 look b o := load_agg (tab32 X) tis32 tia32 look b o
theorem tab3 (X : T Ext) : (En X).tab.get 3 = some (tiN 3) := by kernel_rfl
theorem tis3 : (tiN 3).size = 1 := by kernel_rfl
theorem tia3 : (tiN 3).isAgg = false := by kernel_rfl
theorem ld3 (X : T Ext) (l : List D) (o : Nat) : loadD (En X) 3 l o = ldC l o := loadD_one (tab3 X) tis3 tia3 l o
theorem ldh3 (X : T Ext) (look : Look) (b o : Nat) : load (En X) 3 look b o = ldHC look b o := load_one (tab3 X) tis3 tia3 look b o
theorem tab62 (X : T Ext) : (En X).tab.get 62 = some (tiN 62) := by kernel_rfl
theorem tis62 : (tiN 62).size = 1 := by kernel_rfl
theorem tia62 : (tiN 62).isAgg = false := by kernel_rfl
theorem ld62 (X : T Ext) (l : List D) (o : Nat) : loadD (En X) 62 l o = ldC l o := loadD_one (tab62 X) tis62 tia62 l o
theorem ldh62 (X : T Ext) (look : Look) (b o : Nat) : load (En X) 62 look b o = ldHC look b o := load_one (tab62 X) tis62 tia62 look b o
end Ar
