import Derived.Test.YtaapmoclinjefaaDoorArA
namespace Ar
open Go Go.Proofs Ev
set_option maxRecDepth 1000000
theorem fn3 (X : T Ext) : (En X).fns.get 3 = some Tryd.f3 := by kernel_rfl
theorem kp3 (X : T Ext) : (En X).kps.get 3 = some 274946082291 := by kernel_rfl
theorem fn7 (X : T Ext) : (En X).fns.get 7 = some Tryd.f7 := by kernel_rfl
theorem kp7 (X : T Ext) : (En X).kps.get 7 = some 17725171955 := by kernel_rfl
theorem fA_43_1 (X : T Ext) (b o : Nat) : fieldAddr (En X) 43 b o 1 = some (.ptr b (o + 1)) := fA_of (by kernel_rfl) b o
theorem fD_43_1 (X : T Ext) (l : List D) (o : Nat) : fieldAddrD (En X) 43 l o 1 = some (.dp l (o + 1)) := by kernel_rfl
theorem fA_43_3 (X : T Ext) (b o : Nat) : fieldAddr (En X) 43 b o 3 = some (.ptr b (o + 3)) := fA_of (by kernel_rfl) b o
theorem fD_43_3 (X : T Ext) (l : List D) (o : Nat) : fieldAddrD (En X) 43 l o 3 = some (.dp l (o + 3)) := by kernel_rfl
theorem fA_43_4 (X : T Ext) (b o : Nat) : fieldAddr (En X) 43 b o 4 = some (.ptr b (o + 4)) := fA_of (by kernel_rfl) b o
theorem fD_43_4 (X : T Ext) (l : List D) (o : Nat) : fieldAddrD (En X) 43 l o 4 = some (.dp l (o + 4)) := by kernel_rfl
theorem fn13 (X : T Ext) : (En X).fns.get 13 = some Tryd.f13 := by kernel_rfl
theorem kp13 (X : T Ext) : (En X).kps.get 13 = some 11656375506135405 := by kernel_rfl
theorem fn14 (X : T Ext) : (En X).fns.get 14 = some Tryd.f14 := by kernel_rfl
theorem kp14 (X : T Ext) : (En X).kps.get 14 = some 2199040034821 := by kernel_rfl
theorem fA_43_0 (X : T Ext) (b o : Nat) : fieldAddr (En X) 43 b o 0 = some (.ptr b (o + 0)) := fA_of (by kernel_rfl) b o
theorem fD_43_0 (X : T Ext) (l : List D) (o : Nat) : fieldAddrD (En X) 43 l o 0 = some (.dp l (o + 0)) := by kernel_rfl
theorem fn23 (X : T Ext) : (En X).fns.get 23 = some Tryd.f23 := by kernel_rfl
theorem kp23 (X : T Ext) : (En X).kps.get 23 = some 6480557 := by kernel_rfl
theorem fn24 (X : T Ext) : (En X).fns.get 24 = some Tryd.f24 := by kernel_rfl
theorem kp24 (X : T Ext) : (En X).kps.get 24 = some 4504699147518035 := by kernel_rfl
theorem fn25 (X : T Ext) : (En X).fns.get 25 = some Tryd.f25 := by kernel_rfl
theorem kp25 (X : T Ext) : (En X).kps.get 25 = some 5 := by kernel_rfl
theorem fn26 (X : T Ext) : (En X).fns.get 26 = some Tryd.f26 := by kernel_rfl
theorem kp26 (X : T Ext) : (En X).kps.get 26 = some 5 := by kernel_rfl
theorem fn38 (X : T Ext) : (En X).fns.get 38 = some Tryd.f38 := by kernel_rfl
theorem kp38 (X : T Ext) : (En X).kps.get 38 = some 1659036333 := by kernel_rfl
theorem fn39 (X : T Ext) : (En X).fns.get 39 = some Tryd.f39 := by kernel_rfl
theorem kp39 (X : T Ext) : (En X).kps.get 39 = some 71 := by kernel_rfl
theorem fn40 (X : T Ext) : (En X).fns.get 40 = some Tryd.f40 := by kernel_rfl
theorem kp40 (X : T Ext) : (En X).kps.get 40 = some 71 := by kernel_rfl
theorem fn47 (X : T Ext) : (En X).fns.get 47 = some Tryd.f47 := by kernel_rfl
theorem kp47 (X : T Ext) : (En X).kps.get 47 = some 65549 := by kernel_rfl
theorem fn49 (X : T Ext) : (En X).fns.get 49 = some Tryd.f49 := by kernel_rfl
theorem kp49 (X : T Ext) : (En X).kps.get 49 = some 3065014465759368977879497220083123194668484629275272701 := by kernel_rfl
theorem fn50 (X : T Ext) : (En X).fns.get 50 = some Tryd.f50 := by kernel_rfl
theorem kp50 (X : T Ext) : (En X).kps.get 50 = some 199 := by kernel_rfl
theorem fn51 (X : T Ext) : (En X).fns.get 51 = some Tryd.f51 := by kernel_rfl
theorem kp51 (X : T Ext) : (En X).kps.get 51 = some 524559 := by kernel_rfl
theorem fn66 (X : T Ext) : (En X).fns.get 66 = some Tryd.f66 := by kernel_rfl
theorem kp66 (X : T Ext) : (En X).kps.get 66 = some 4690104811709 := by kernel_rfl
theorem fn67 (X : T Ext) : (En X).fns.get 67 = some Tryd.f67 := by kernel_rfl
theorem kp67 (X : T Ext) : (En X).kps.get 67 = some 21 := by kernel_rfl
theorem fn68 (X : T Ext) : (En X).fns.get 68 = some Tryd.f68 := by kernel_rfl
theorem kp68 (X : T Ext) : (En X).kps.get 68 = some 2165441117 := by kernel_rfl
theorem us108 (X : T Ext) : undT (En X) 108 = some (.slice 21) := by kernel_rfl
theorem sz21 (X : T Ext) : sizeT (En X) 21 = some 1 := by kernel_rfl
theorem fn69 (X : T Ext) : (En X).fns.get 69 = some Tryd.f69 := by kernel_rfl
theorem kp69 (X : T Ext) : (En X).kps.get 69 = some 35184372097267 := by kernel_rfl
theorem fA_43_2 (X : T Ext) (b o : Nat) : fieldAddr (En X) 43 b o 2 = some (.ptr b (o + 2)) := fA_of (by kernel_rfl) b o
theorem fD_43_2 (X : T Ext) (l : List D) (o : Nat) : fieldAddrD (En X) 43 l o 2 = some (.dp l (o + 2)) := by kernel_rfl
theorem fn83 (X : T Ext) : (En X).fns.get 83 = some Tryd.f83 := by kernel_rfl
theorem kp83 (X : T Ext) : (En X).kps.get 83 = some 637 := by kernel_rfl
theorem isNew2 (X : T Ext) : isNew (En X) 2 = false := by kernel_rfl
theorem fn84 (X : T Ext) : (En X).fns.get 84 = some Tryd.f84 := by kernel_rfl
theorem kp84 (X : T Ext) : (En X).kps.get 84 = some 637 := by kernel_rfl
theorem fn85 (X : T Ext) : (En X).fns.get 85 = some Tryd.f85 := by kernel_rfl
theorem kp85 (X : T Ext) : (En X).kps.get 85 = some 5 := by kernel_rfl
theorem fn86 (X : T Ext) : (En X).fns.get 86 = some Tryd.f86 := by kernel_rfl
theorem kp86 (X : T Ext) : (En X).kps.get 86 = some 133309 := by kernel_rfl
theorem bS108_1 (X : T Ext) (id : Nat) (x0_0 : C) : buildSlice (En X) 108 1 [(0, (.c x0_0))] id = some (vc (.sl id 0 1 (some 1) 1), .row (mkRow [x0_0])) := by kernel_rfl
theorem el108 (X : T Ext) : elemTI (En X) 108 = some (tiN 21) := by kernel_rfl
theorem ti21 : (tiN 21).size = 1 ∧ (tiN 21).bytes = 4 := ⟨by kernel_rfl, by kernel_rfl⟩
theorem tab21 (X : T Ext) : (En X).tab.get 21 = some (tiN 21) := by kernel_rfl
theorem tis21 : (tiN 21).size = 1 := by kernel_rfl
theorem tia21 : (tiN 21).isAgg = false := by kernel_rfl
theorem ld21 (X : T Ext) (l : List D) (o : Nat) : loadD (En X) 21 l o = ldC l o := loadD_one (tab21 X) tis21 tia21 l o
theorem ldh21 (X : T Ext) (look : Look) (b o : Nat) : load (En X) 21 look b o = ldHC look b o := load_one (tab21 X) tis21 tia21 look b o
theorem tab22 (X : T Ext) : (En X).tab.get 22 = some (tiN 22) := by kernel_rfl
theorem tis22 : (tiN 22).size = 1 := by kernel_rfl
theorem tia22 : (tiN 22).isAgg = false := by kernel_rfl
theorem ld22 (X : T Ext) (l : List D) (o : Nat) : loadD (En X) 22 l o = ldC l o := loadD_one (tab22 X) tis22 tia22 l o
theorem ldh22 (X : T Ext) (look : Look) (b o : Nat) : load (En X) 22 look b o = ldHC look b o := load_one (tab22 X) tis22 tia22 look b o
end Ar
