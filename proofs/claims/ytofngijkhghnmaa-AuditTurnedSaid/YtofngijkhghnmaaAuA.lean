import Derived.Test.YtofngijkhghnmaaEwG
import Derived.Test.YtofngijkhghnmaaProg
import Derived.KernelRfl
namespace Au
open Go Go.Proofs Ev
def kps : List (Nat × Nat) := [(2, 1), (3, 36780983383), (4, 2659790427637973563952075727), (5, 1303154739992195127768206463209469), (6, 79320011835903), (7, 4718669), (8, 437), (9, 66749), (10, 17592186059229), (11, 295147905179352827069), (12, 10881139319), (13, 680593591), (14, 264451), (15, 131229), (16, 8351), (17, 147583118394557202495), (18, 4227103), (19, 4227103), (20, 33261), (21, 141741527005), (22, 1075), (23, 1069), (24, 69256347679), (25, 537111495), (26, 16843965), (27, 8883), (28, 8883), (29, 12979), (30, 12979), (31, 8883), (32, 147), (33, 15), (34, 12979), (35, 65971)]
set_option maxRecDepth 1000000
noncomputable def En (X : T Ext) : Env := { tab := tabT Try.prog Try.prog.types.toList 0 .nil, fns := T.ofL Try.prog.funcs.toList, ext := X, kps := pairT kps .nil }
theorem En_of (exts : List (Nat × Ext)) : envOf Try.prog exts kps = En (pairT exts .nil) := rfl
noncomputable def tiN (t : Nat) : TI := match (En .nil).tab.get t with
  | some i => i
  | none => ⟨0, 0, none, .bool, false⟩
theorem fn3 (X : T Ext) : (En X).fns.get 3 = some Try.f3 := by kernel_rfl
theorem kp3 (X : T Ext) : (En X).kps.get 3 = some 36780983383 := by kernel_rfl
theorem fA_27_5 (X : T Ext) (b o : Nat) : fieldAddr (En X) 27 b o 5 = some (.ptr b (o + 5)) := fA_of (by kernel_rfl) b o
theorem fD_27_5 (X : T Ext) (l : List D) (o : Nat) : fieldAddrD (En X) 27 l o 5 = some (.dp l (o + 5)) := by kernel_rfl
theorem us25 (X : T Ext) : undT (En X) 25 = some (.slice 35) := by kernel_rfl
theorem sz35 (X : T Ext) : sizeT (En X) 35 = some 4 := by kernel_rfl
theorem uint3 (X : T Ext) : undT (En X) 3 = some (.int .i64) := by kernel_rfl
theorem ubool4 (X : T Ext) : undT (En X) 4 = some .bool := by kernel_rfl
theorem fn4 (X : T Ext) : (En X).fns.get 4 = some Try.f4 := by kernel_rfl
theorem kp4 (X : T Ext) : (En X).kps.get 4 = some 2659790427637973563952075727 := by kernel_rfl
theorem al27 (X : T Ext) (id : Nat) : nAlloc (En X) 27 id = some (vc (.ptr id 0), .row (mkRow [.int .i64 0, .int .i64 0, .str ⟨0, 0⟩, .nils, .nils, .nils])) := by kernel_rfl
theorem bS25_0 (X : T Ext) (id : Nat) : buildSlice (En X) 25 0 [] id = some (vc (.sl id 0 0 (some 0) 4), .row (mkRow [])) := by kernel_rfl
theorem el25 (X : T Ext) : elemTI (En X) 25 = some (tiN 35) := by kernel_rfl
theorem ti35 : (tiN 35).size = 4 ∧ (tiN 35).bytes = 72 := ⟨by kernel_rfl, by kernel_rfl⟩
theorem fA_35_3 (X : T Ext) (b o : Nat) : fieldAddr (En X) 35 b o 3 = some (.ptr b (o + 3)) := fA_of (by kernel_rfl) b o
theorem fD_35_3 (X : T Ext) (l : List D) (o : Nat) : fieldAddrD (En X) 35 l o 3 = some (.dp l (o + 3)) := by kernel_rfl
theorem ustr9 (X : T Ext) : undT (En X) 9 = some .string := by kernel_rfl
theorem us28 (X : T Ext) : undT (En X) 28 = some (.slice 27) := by kernel_rfl
theorem sz27 (X : T Ext) : sizeT (En X) 27 = some 6 := by kernel_rfl
theorem bS28_1 (X : T Ext) (id : Nat) (x0_0 x0_1 x0_2 x0_3 x0_4 x0_5 : C) : buildSlice (En X) 28 1 [(0, (.agg [x0_0, x0_1, x0_2, x0_3, x0_4, x0_5]))] id = some (vc (.sl id 0 1 (some 1) 6), .row (mkRow [x0_0, x0_1, x0_2, x0_3, x0_4, x0_5])) := by kernel_rfl
theorem fn7 (X : T Ext) : (En X).fns.get 7 = some Try.f7 := by kernel_rfl
theorem kp7 (X : T Ext) : (En X).kps.get 7 = some 4718669 := by kernel_rfl
theorem fn8 (X : T Ext) : (En X).fns.get 8 = some Try.f8 := by kernel_rfl
theorem kp8 (X : T Ext) : (En X).kps.get 8 = some 437 := by kernel_rfl
theorem fn9 (X : T Ext) : (En X).fns.get 9 = some Try.f9 := by kernel_rfl
theorem kp9 (X : T Ext) : (En X).kps.get 9 = some 66749 := by kernel_rfl
theorem fn10 (X : T Ext) : (En X).fns.get 10 = some Try.f10 := by kernel_rfl
theorem kp10 (X : T Ext) : (En X).kps.get 10 = some 17592186059229 := by kernel_rfl
theorem al35 (X : T Ext) (id : Nat) : nAlloc (En X) 35 id = some (vc (.ptr id 0), .row (mkRow [.int .i64 0, .nils, .nils, .str ⟨0, 0⟩])) := by kernel_rfl
theorem fA_35_0 (X : T Ext) (b o : Nat) : fieldAddr (En X) 35 b o 0 = some (.ptr b (o + 0)) := fA_of (by kernel_rfl) b o
theorem fD_35_0 (X : T Ext) (l : List D) (o : Nat) : fieldAddrD (En X) 35 l o 0 = some (.dp l (o + 0)) := by kernel_rfl
theorem um46 (X : T Ext) : undT (En X) 46 = some (.map 3 35) := by kernel_rfl
theorem fn11 (X : T Ext) : (En X).fns.get 11 = some Try.f11 := by kernel_rfl
theorem kp11 (X : T Ext) : (En X).kps.get 11 = some 295147905179352827069 := by kernel_rfl
theorem fn12 (X : T Ext) : (En X).fns.get 12 = some Try.f12 := by kernel_rfl
theorem kp12 (X : T Ext) : (En X).kps.get 12 = some 10881139319 := by kernel_rfl
theorem fn13 (X : T Ext) : (En X).fns.get 13 = some Try.f13 := by kernel_rfl
theorem kp13 (X : T Ext) : (En X).kps.get 13 = some 680593591 := by kernel_rfl
theorem fn15 (X : T Ext) : (En X).fns.get 15 = some Try.f15 := by kernel_rfl
theorem kp15 (X : T Ext) : (En X).kps.get 15 = some 131229 := by kernel_rfl
theorem fn17 (X : T Ext) : (En X).fns.get 17 = some Try.f17 := by kernel_rfl
theorem kp17 (X : T Ext) : (En X).kps.get 17 = some 147583118394557202495 := by kernel_rfl
theorem fA_27_0 (X : T Ext) (b o : Nat) : fieldAddr (En X) 27 b o 0 = some (.ptr b (o + 0)) := fA_of (by kernel_rfl) b o
theorem fD_27_0 (X : T Ext) (l : List D) (o : Nat) : fieldAddrD (En X) 27 l o 0 = some (.dp l (o + 0)) := by kernel_rfl
theorem uint22 (X : T Ext) : undT (En X) 22 = some (.int .i64) := by kernel_rfl
theorem fA_27_1 (X : T Ext) (b o : Nat) : fieldAddr (En X) 27 b o 1 = some (.ptr b (o + 1)) := fA_of (by kernel_rfl) b o
theorem fD_27_1 (X : T Ext) (l : List D) (o : Nat) : fieldAddrD (En X) 27 l o 1 = some (.dp l (o + 1)) := by kernel_rfl
theorem fA_27_2 (X : T Ext) (b o : Nat) : fieldAddr (En X) 27 b o 2 = some (.ptr b (o + 2)) := fA_of (by kernel_rfl) b o
theorem fD_27_2 (X : T Ext) (l : List D) (o : Nat) : fieldAddrD (En X) 27 l o 2 = some (.dp l (o + 2)) := by kernel_rfl
theorem fA_27_3 (X : T Ext) (b o : Nat) : fieldAddr (En X) 27 b o 3 = some (.ptr b (o + 3)) := fA_of (by kernel_rfl) b o
theorem fD_27_3 (X : T Ext) (l : List D) (o : Nat) : fieldAddrD (En X) 27 l o 3 = some (.dp l (o + 3)) := by kernel_rfl
theorem fA_27_4 (X : T Ext) (b o : Nat) : fieldAddr (En X) 27 b o 4 = some (.ptr b (o + 4)) := fA_of (by kernel_rfl) b o
theorem fD_27_4 (X : T Ext) (l : List D) (o : Nat) : fieldAddrD (En X) 27 l o 4 = some (.dp l (o + 4)) := by kernel_rfl
theorem fn18 (X : T Ext) : (En X).fns.get 18 = some Try.f18 := by kernel_rfl
theorem kp18 (X : T Ext) : (En X).kps.get 18 = some 4227103 := by kernel_rfl
theorem fA_35_1 (X : T Ext) (b o : Nat) : fieldAddr (En X) 35 b o 1 = some (.ptr b (o + 1)) := fA_of (by kernel_rfl) b o
theorem fD_35_1 (X : T Ext) (l : List D) (o : Nat) : fieldAddrD (En X) 35 l o 1 = some (.dp l (o + 1)) := by kernel_rfl
theorem fA_35_2 (X : T Ext) (b o : Nat) : fieldAddr (En X) 35 b o 2 = some (.ptr b (o + 2)) := fA_of (by kernel_rfl) b o
theorem fD_35_2 (X : T Ext) (l : List D) (o : Nat) : fieldAddrD (En X) 35 l o 2 = some (.dp l (o + 2)) := by kernel_rfl
theorem fn19 (X : T Ext) : (En X).fns.get 19 = some Try.f19 := by kernel_rfl
theorem kp19 (X : T Ext) : (En X).kps.get 19 = some 4227103 := by kernel_rfl
theorem fn20 (X : T Ext) : (En X).fns.get 20 = some Try.f20 := by kernel_rfl
theorem kp20 (X : T Ext) : (En X).kps.get 20 = some 33261 := by kernel_rfl
theorem fn21 (X : T Ext) : (En X).fns.get 21 = some Try.f21 := by kernel_rfl
theorem kp21 (X : T Ext) : (En X).kps.get 21 = some 141741527005 := by kernel_rfl
theorem bS25_1 (X : T Ext) (id : Nat) (x0_0 x0_1 x0_2 x0_3 : C) : buildSlice (En X) 25 1 [(0, (.agg [x0_0, x0_1, x0_2, x0_3]))] id = some (vc (.sl id 0 1 (some 1) 4), .row (mkRow [x0_0, x0_1, x0_2, x0_3])) := by kernel_rfl
theorem fn22 (X : T Ext) : (En X).fns.get 22 = some Try.f22 := by kernel_rfl
theorem kp22 (X : T Ext) : (En X).kps.get 22 = some 1075 := by kernel_rfl
theorem fn23 (X : T Ext) : (En X).fns.get 23 = some Try.f23 := by kernel_rfl
theorem kp23 (X : T Ext) : (En X).kps.get 23 = some 1069 := by kernel_rfl
theorem fn24 (X : T Ext) : (En X).fns.get 24 = some Try.f24 := by kernel_rfl
theorem kp24 (X : T Ext) : (En X).kps.get 24 = some 69256347679 := by kernel_rfl
theorem fn25 (X : T Ext) : (En X).fns.get 25 = some Try.f25 := by kernel_rfl
theorem kp25 (X : T Ext) : (En X).kps.get 25 = some 537111495 := by kernel_rfl
theorem fn26 (X : T Ext) : (En X).fns.get 26 = some Try.f26 := by kernel_rfl
theorem kp26 (X : T Ext) : (En X).kps.get 26 = some 16843965 := by kernel_rfl
theorem fn27 (X : T Ext) : (En X).fns.get 27 = some Try.f27 := by kernel_rfl
theorem kp27 (X : T Ext) : (En X).kps.get 27 = some 8883 := by kernel_rfl
theorem us23 (X : T Ext) : undT (En X) 23 = some (.slice 59) := by kernel_rfl
theorem sz59 (X : T Ext) : sizeT (En X) 59 = some 2 := by kernel_rfl
theorem fn28 (X : T Ext) : (En X).fns.get 28 = some Try.f28 := by kernel_rfl
theorem kp28 (X : T Ext) : (En X).kps.get 28 = some 8883 := by kernel_rfl
theorem us24 (X : T Ext) : undT (En X) 24 = some (.slice 55) := by kernel_rfl
theorem sz55 (X : T Ext) : sizeT (En X) 55 = some 2 := by kernel_rfl
theorem fn29 (X : T Ext) : (En X).fns.get 29 = some Try.f29 := by kernel_rfl
theorem kp29 (X : T Ext) : (En X).kps.get 29 = some 12979 := by kernel_rfl
theorem us33 (X : T Ext) : undT (En X) 33 = some (.slice 9) := by kernel_rfl
theorem sz9 (X : T Ext) : sizeT (En X) 9 = some 1 := by kernel_rfl
theorem fn30 (X : T Ext) : (En X).fns.get 30 = some Try.f30 := by kernel_rfl
theorem kp30 (X : T Ext) : (En X).kps.get 30 = some 12979 := by kernel_rfl
theorem fn31 (X : T Ext) : (En X).fns.get 31 = some Try.f31 := by kernel_rfl
theorem kp31 (X : T Ext) : (En X).kps.get 31 = some 8883 := by kernel_rfl
theorem fn32 (X : T Ext) : (En X).fns.get 32 = some Try.f32 := by kernel_rfl
theorem kp32 (X : T Ext) : (En X).kps.get 32 = some 147 := by kernel_rfl
theorem fn33 (X : T Ext) : (En X).fns.get 33 = some Try.f33 := by kernel_rfl
theorem kp33 (X : T Ext) : (En X).kps.get 33 = some 15 := by kernel_rfl
theorem fn34 (X : T Ext) : (En X).fns.get 34 = some Try.f34 := by kernel_rfl
theorem kp34 (X : T Ext) : (En X).kps.get 34 = some 12979 := by kernel_rfl
theorem fn35 (X : T Ext) : (En X).fns.get 35 = some Try.f35 := by kernel_rfl
theorem kp35 (X : T Ext) : (En X).kps.get 35 = some 65971 := by kernel_rfl
theorem tab25 (X : T Ext) : (En X).tab.get 25 = some (tiN 25) := by kernel_rfl
theorem tis25 : (tiN 25).size = 1 := by kernel_rfl
theorem tia25 : (tiN 25).isAgg = false := by kernel_rfl
theorem ld25 (X : T Ext) (l : List D) (o : Nat) : loadD (En X) 25 l o = ldC l o := loadD_one (tab25 X) tis25 tia25 l o
theorem ldh25 (X : T Ext) (look : Look) (b o : Nat) : load (En X) 25 look b o = ldHC look b o := load_one (tab25 X) tis25 tia25 look b o
theorem tab27 (X : T Ext) : (En X).tab.get 27 = some (tiN 27) := by kernel_rfl
theorem tis27 : (tiN 27).size = 6 := by kernel_rfl
theorem tia27 : (tiN 27).isAgg = true := by kernel_rfl
theorem ld27 (X : T Ext) (l : List D) (o : Nat) : loadD (En X) 27 l o = ldA 6 l o := loadD_agg (tab27 X) tis27 tia27 l o
theorem ldh27 (X : T Ext) (look : Look) (b o : Nat) : load (En X) 27 look b o = ldHA 6 look b o := load_agg (tab27 X) tis27 tia27 look b o
theorem tab9 (X : T Ext) : (En X).tab.get 9 = some (tiN 9) := by kernel_rfl
theorem tis9 : (tiN 9).size = 1 := by kernel_rfl
theorem tia9 : (tiN 9).isAgg = false := by kernel_rfl
theorem ld9 (X : T Ext) (l : List D) (o : Nat) : loadD (En X) 9 l o = ldC l o := loadD_one (tab9 X) tis9 tia9 l o
theorem ldh9 (X : T Ext) (look : Look) (b o : Nat) : load (En X) 9 look b o = ldHC look b o := load_one (tab9 X) tis9 tia9 look b o
theorem tab35 (X : T Ext) : (En X).tab.get 35 = some (tiN 35) := by kernel_rfl
theorem tis35 : (tiN 35).size = 4 := by kernel_rfl
theorem tia35 : (tiN 35).isAgg = true := by kernel_rfl
theorem ld35 (X : T Ext) (l : List D) (o : Nat) : loadD (En X) 35 l o = ldA 4 l o := loadD_agg (tab35 X) tis35 tia35 l o
theorem ldh35 (X : T Ext) (look : Look) (b o : Nat) : load (En X) 35 look b o = ldHA 4 look b o := load_agg (tab35 X) tis35 tia35 look b o
theorem tab3 (X : T Ext) : (En X).tab.get 3 = some (tiN 3) := by kernel_rfl
theorem tis3 : (tiN 3).size = 1 := by kernel_rfl
theorem tia3 : (tiN 3).isAgg = false := by kernel_rfl
theorem ld3 (X : T Ext) (l : List D) (o : Nat) : loadD (En X) 3 l o = ldC l o := loadD_one (tab3 X) tis3 tia3 l o
theorem ldh3 (X : T Ext) (look : Look) (b o : Nat) : load (En X) 3 look b o = ldHC look b o := load_one (tab3 X) tis3 tia3 look b o
theorem tab22 (X : T Ext) : (En X).tab.get 22 = some (tiN 22) := by kernel_rfl
theorem tis22 : (tiN 22).size = 1 := by kernel_rfl
theorem tia22 : (tiN 22).isAgg = false := by kernel_rfl
theorem ld22 (X : T Ext) (l : List D) (o : Nat) : loadD (En X) 22 l o = ldC l o := loadD_one (tab22 X) tis22 tia22 l o
theorem ldh22 (X : T Ext) (look : Look) (b o : Nat) : load (En X) 22 look b o = ldHC look b o := load_one (tab22 X) tis22 tia22 look b o
theorem tab23 (X : T Ext) : (En X).tab.get 23 = some (tiN 23) := by kernel_rfl
theorem tis23 : (tiN 23).size = 1 := by kernel_rfl
theorem tia23 : (tiN 23).isAgg = false := by kernel_rfl
theorem ld23 (X : T Ext) (l : List D) (o : Nat) : loadD (En X) 23 l o = ldC l o := loadD_one (tab23 X) tis23 tia23 l o
theorem ldh23 (X : T Ext) (look : Look) (b o : Nat) : load (En X) 23 look b o = ldHC look b o := load_one (tab23 X) tis23 tia23 look b o
theorem tab24 (X : T Ext) : (En X).tab.get 24 = some (tiN 24) := by kernel_rfl
theorem tis24 : (tiN 24).size = 1 := by kernel_rfl
theorem tia24 : (tiN 24).isAgg = false := by kernel_rfl
theorem ld24 (X : T Ext) (l : List D) (o : Nat) : loadD (En X) 24 l o = ldC l o := loadD_one (tab24 X) tis24 tia24 l o
theorem ldh24 (X : T Ext) (look : Look) (b o : Nat) : load (En X) 24 look b o = ldHC look b o := load_one (tab24 X) tis24 tia24 look b o
theorem tab33 (X : T Ext) : (En X).tab.get 33 = some (tiN 33) := by kernel_rfl
theorem tis33 : (tiN 33).size = 1 := by kernel_rfl
theorem tia33 : (tiN 33).isAgg = false := by kernel_rfl
theorem ld33 (X : T Ext) (l : List D) (o : Nat) : loadD (En X) 33 l o = ldC l o := loadD_one (tab33 X) tis33 tia33 l o
theorem ldh33 (X : T Ext) (look : Look) (b o : Nat) : load (En X) 33 look b o = ldHC look b o := load_one (tab33 X) tis33 tia33 look b o
theorem tab59 (X : T Ext) : (En X).tab.get 59 = some (tiN 59) := by kernel_rfl
theorem tis59 : (tiN 59).size = 2 := by kernel_rfl
theorem tia59 : (tiN 59).isAgg = true := by kernel_rfl
theorem ld59 (X : T Ext) (l : List D) (o : Nat) : loadD (En X) 59 l o = ldA 2 l o := loadD_agg (tab59 X) tis59 tia59 l o
theorem ldh59 (X : T Ext) (look : Look) (b o : Nat) : load (En X) 59 look b o = ldHA 2 look b o := load_agg (tab59 X) tis59 tia59 look b o
theorem tab55 (X : T Ext) : (En X).tab.get 55 = some (tiN 55) := by kernel_rfl
theorem tis55 : (tiN 55).size = 2 := by kernel_rfl
theorem tia55 : (tiN 55).isAgg = true := by kernel_rfl
theorem ld55 (X : T Ext) (l : List D) (o : Nat) : loadD (En X) 55 l o = ldA 2 l o := loadD_agg (tab55 X) tis55 tia55 l o
theorem ldh55 (X : T Ext) (look : Look) (b o : Nat) : load (En X) 55 look b o = ldHA 2 look b o := load_agg (tab55 X) tis55 tia55 look b o
end Au
