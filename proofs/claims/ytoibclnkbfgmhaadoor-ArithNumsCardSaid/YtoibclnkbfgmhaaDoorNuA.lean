import Derived.Test.YtoibclnkbfgmhaaDoorEwG
import Derived.Test.YtoibclnkbfgmhaaDoorProg
import Derived.KernelRfl
namespace Nu
open Go Go.Proofs Ev
def kps : List (Nat × Nat) := [(2, 1), (3, 140737691850739), (4, 17597), (5, 4690104811709), (6, 17413), (7, 4383), (8, 147), (9, 147), (10, 8397255), (11, 637), (12, 637), (13, 16397), (14, 2147570675), (15, 8531), (16, 147), (17, 539168711), (18, 1121071012895), (19, 295517), (20, 129), (21, 19352258135594232244089331), (22, 174224577096382171037739960777314905735155), (23, 187072209581261271206726987124361732537557266448327), (24, 1171), (25, 1171), (26, 43591), (27, 43591), (28, 18890845), (29, 135270227), (30, 77611434099), (31, 33555063), (32, 13), (33, 675365106681885568251890028412666823), (34, 147), (36, 5), (37, 8796093163507), (38, 5), (39, 1218370562159455504433341), (40, 201005), (41, 37), (42, 21), (43, 18890845), (44, 83), (45, 317), (46, 2131), (47, 135539), (48, 65971), (49, 15), (50, 115), (52, 8391165), (53, 21), (54, 599563828219485437), (55, 19), (56, 65549), (57, 147), (58, 1125904336552947), (59, 33075), (60, 5), (61, 51), (62, 37), (63, 21), (64, 135299293), (65, 24573), (66, 61447984286128824476406153834618308375617927833625690099), (67, 5), (68, 8301), (69, 393203), (70, 316912650057057350528795147295), (71, 5), (72, 109), (73, 147), (74, 1037), (75, 5), (76, 5), (77, 5), (78, 5), (79, 165), (80, 5), (81, 5), (111, 1536)]
set_option maxRecDepth 1000000
noncomputable def En (X : T Ext) : Env := { tab := tabT Tryd.prog Tryd.prog.types.toList 0 .nil, fns := T.ofL Tryd.prog.funcs.toList, ext := X, kps := pairT kps .nil }
theorem En_of (exts : List (Nat × Ext)) : envOf Tryd.prog exts kps = En (pairT exts .nil) := rfl
noncomputable def tiN (t : Nat) : TI := match (En .nil).tab.get t with
  | some i => i
  | none => ⟨0, 0, none, .bool, false⟩
theorem fn3 (X : T Ext) : (En X).fns.get 3 = some Tryd.f3 := by kernel_rfl
theorem kp3 (X : T Ext) : (En X).kps.get 3 = some 140737691850739 := by kernel_rfl
theorem ustr9 (X : T Ext) : undT (En X) 9 = some .string := by kernel_rfl
theorem uint3 (X : T Ext) : undT (En X) 3 = some (.int .i64) := by kernel_rfl
theorem uint2 (X : T Ext) : undT (En X) 2 = some (.int .i64) := by kernel_rfl
theorem ubool4 (X : T Ext) : undT (En X) 4 = some .bool := by kernel_rfl
theorem fn4 (X : T Ext) : (En X).fns.get 4 = some Tryd.f4 := by kernel_rfl
theorem kp4 (X : T Ext) : (En X).kps.get 4 = some 17597 := by kernel_rfl
theorem fn5 (X : T Ext) : (En X).fns.get 5 = some Tryd.f5 := by kernel_rfl
theorem kp5 (X : T Ext) : (En X).kps.get 5 = some 4690104811709 := by kernel_rfl
theorem uint5 (X : T Ext) : undT (En X) 5 = some (.int .u8) := by kernel_rfl
theorem fn6 (X : T Ext) : (En X).fns.get 6 = some Tryd.f6 := by kernel_rfl
theorem kp6 (X : T Ext) : (En X).kps.get 6 = some 17413 := by kernel_rfl
theorem uint33 (X : T Ext) : undT (En X) 33 = some (.int .u64) := by kernel_rfl
theorem isNew33 (X : T Ext) : isNew (En X) 33 = false := by kernel_rfl
theorem fn8 (X : T Ext) : (En X).fns.get 8 = some Tryd.f8 := by kernel_rfl
theorem kp8 (X : T Ext) : (En X).kps.get 8 = some 147 := by kernel_rfl
theorem fn9 (X : T Ext) : (En X).fns.get 9 = some Tryd.f9 := by kernel_rfl
theorem kp9 (X : T Ext) : (En X).kps.get 9 = some 147 := by kernel_rfl
theorem fn10 (X : T Ext) : (En X).fns.get 10 = some Tryd.f10 := by kernel_rfl
theorem kp10 (X : T Ext) : (En X).kps.get 10 = some 8397255 := by kernel_rfl
theorem fn11 (X : T Ext) : (En X).fns.get 11 = some Tryd.f11 := by kernel_rfl
theorem kp11 (X : T Ext) : (En X).kps.get 11 = some 637 := by kernel_rfl
theorem isNew2 (X : T Ext) : isNew (En X) 2 = false := by kernel_rfl
theorem fn12 (X : T Ext) : (En X).fns.get 12 = some Tryd.f12 := by kernel_rfl
theorem kp12 (X : T Ext) : (En X).kps.get 12 = some 637 := by kernel_rfl
theorem fn13 (X : T Ext) : (En X).fns.get 13 = some Tryd.f13 := by kernel_rfl
theorem kp13 (X : T Ext) : (En X).kps.get 13 = some 16397 := by kernel_rfl
theorem isNew5 (X : T Ext) : isNew (En X) 5 = false := by kernel_rfl
theorem us42 (X : T Ext) : undT (En X) 42 = some (.slice 5) := by kernel_rfl
theorem sz5 (X : T Ext) : sizeT (En X) 5 = some 1 := by kernel_rfl
theorem bS42_1 (X : T Ext) (id : Nat) (x0_0 : C) : buildSlice (En X) 42 1 [(0, (.c x0_0))] id = some (vc (.sl id 0 1 (some 1) 1), .row (mkRow [x0_0])) := by kernel_rfl
theorem isNew9 (X : T Ext) : isNew (En X) 9 = false := by kernel_rfl
theorem fn15 (X : T Ext) : (En X).fns.get 15 = some Tryd.f15 := by kernel_rfl
theorem kp15 (X : T Ext) : (En X).kps.get 15 = some 8531 := by kernel_rfl
theorem fn16 (X : T Ext) : (En X).fns.get 16 = some Tryd.f16 := by kernel_rfl
theorem kp16 (X : T Ext) : (En X).kps.get 16 = some 147 := by kernel_rfl
theorem fn18 (X : T Ext) : (En X).fns.get 18 = some Tryd.f18 := by kernel_rfl
theorem kp18 (X : T Ext) : (En X).kps.get 18 = some 1121071012895 := by kernel_rfl
theorem fn22 (X : T Ext) : (En X).fns.get 22 = some Tryd.f22 := by kernel_rfl
theorem kp22 (X : T Ext) : (En X).kps.get 22 = some 174224577096382171037739960777314905735155 := by kernel_rfl
theorem fn24 (X : T Ext) : (En X).fns.get 24 = some Tryd.f24 := by kernel_rfl
theorem kp24 (X : T Ext) : (En X).kps.get 24 = some 1171 := by kernel_rfl
theorem fn25 (X : T Ext) : (En X).fns.get 25 = some Tryd.f25 := by kernel_rfl
theorem kp25 (X : T Ext) : (En X).kps.get 25 = some 1171 := by kernel_rfl
theorem fn34 (X : T Ext) : (En X).fns.get 34 = some Tryd.f34 := by kernel_rfl
theorem kp34 (X : T Ext) : (En X).kps.get 34 = some 147 := by kernel_rfl
theorem tab3 (X : T Ext) : (En X).tab.get 3 = some (tiN 3) := by kernel_rfl
theorem tis3 : (tiN 3).size = 1 := by kernel_rfl
theorem tia3 : (tiN 3).isAgg = false := by kernel_rfl
theorem ld3 (X : T Ext) (l : List D) (o : Nat) : loadD (En X) 3 l o = ldC l o := loadD_one (tab3 X) tis3 tia3 l o
theorem ldh3 (X : T Ext) (look : Look) (b o : Nat) : load (En X) 3 look b o = ldHC look b o := load_one (tab3 X) tis3 tia3 look b o
theorem tab29 (X : T Ext) : (En X).tab.get 29 = some (tiN 29) := by kernel_rfl
theorem tis29 : (tiN 29).size = 1 := by kernel_rfl
theorem tia29 : (tiN 29).isAgg = false := by kernel_rfl
theorem ld29 (X : T Ext) (l : List D) (o : Nat) : loadD (En X) 29 l o = ldC l o := loadD_one (tab29 X) tis29 tia29 l o
theorem ldh29 (X : T Ext) (look : Look) (b o : Nat) : load (En X) 29 look b o = ldHC look b o := load_one (tab29 X) tis29 tia29 look b o
end Nu
