import Derived.Test.YtpkjpkfamdmgiaaGreatDoorWsA
import Derived.KernelRfl
namespace Ws
open Go Go.Proofs Ev
set_option maxRecDepth 1000000
theorem fn3 (X : T Ext) : (En X).fns.get 3 = some Tryz.f3 := by kernel_rfl
theorem kp3 (X : T Ext) : (En X).kps.get 3 = some 2545514212866568930011444871165 := by kernel_rfl
theorem us36 (X : T Ext) : undT (En X) 36 = some (.slice 34) := by kernel_rfl
theorem sz34 (X : T Ext) : sizeT (En X) 34 = some 1 := by kernel_rfl
theorem bS36_1 (X : T Ext) (id : Nat) (x0_0 : C) : buildSlice (En X) 36 1 [(0, (.agg [x0_0]))] id = some (vc (.sl id 0 1 (some 1) 1), .row (mkRow [x0_0])) := by kernel_rfl
theorem us25 (X : T Ext) : undT (En X) 25 = some (.slice 9) := by kernel_rfl
theorem sz9 (X : T Ext) : sizeT (En X) 9 = some 1 := by kernel_rfl
theorem bS25_1 (X : T Ext) (id : Nat) (x0_0 : C) : buildSlice (En X) 25 1 [(0, (.c x0_0))] id = some (vc (.sl id 0 1 (some 1) 1), .row (mkRow [x0_0])) := by kernel_rfl
theorem fn5 (X : T Ext) : (En X).fns.get 5 = some Tryz.f5 := by kernel_rfl
theorem kp5 (X : T Ext) : (En X).kps.get 5 = some 595211550933283233583 := by kernel_rfl
theorem al34 (X : T Ext) (id : Nat) : nAlloc (En X) 34 id = some (vc (.ptr id 0), .row (mkRow [.nils])) := by kernel_rfl
theorem us53 (X : T Ext) : undT (En X) 53 = some (.slice 40) := by kernel_rfl
theorem sz40 (X : T Ext) : sizeT (En X) 40 = some 1 := by kernel_rfl
theorem el25 (X : T Ext) : elemTI (En X) 25 = some (tiN 9) := by kernel_rfl
theorem ti9 : (tiN 9).size = 1 ∧ (tiN 9).bytes = 16 := ⟨by kernel_rfl, by kernel_rfl⟩
theorem fn17 (X : T Ext) : (En X).fns.get 17 = some Tryz.f17 := by kernel_rfl
theorem kp17 (X : T Ext) : (En X).kps.get 17 = some 5106763693 := by kernel_rfl
theorem fA_78_0 (X : T Ext) (b o : Nat) : fieldAddr (En X) 78 b o 0 = some (.ptr b (o + 0)) := fA_of (by kernel_rfl) b o
theorem fD_78_0 (X : T Ext) (l : List D) (o : Nat) : fieldAddrD (En X) 78 l o 0 = some (.dp l (o + 0)) := by kernel_rfl
theorem fn18 (X : T Ext) : (En X).fns.get 18 = some Tryz.f18 := by kernel_rfl
theorem kp18 (X : T Ext) : (En X).kps.get 18 = some 306454195 := by kernel_rfl
theorem fn27 (X : T Ext) : (En X).fns.get 27 = some Tryz.f27 := by kernel_rfl
theorem kp27 (X : T Ext) : (En X).kps.get 27 = some 65537 := by kernel_rfl
theorem fA_78_2 (X : T Ext) (b o : Nat) : fieldAddr (En X) 78 b o 2 = some (.ptr b (o + 2)) := fA_of (by kernel_rfl) b o
theorem fD_78_2 (X : T Ext) (l : List D) (o : Nat) : fieldAddrD (En X) 78 l o 2 = some (.dp l (o + 2)) := by kernel_rfl
theorem fA_78_1 (X : T Ext) (b o : Nat) : fieldAddr (En X) 78 b o 1 = some (.ptr b (o + 1)) := fA_of (by kernel_rfl) b o
theorem fD_78_1 (X : T Ext) (l : List D) (o : Nat) : fieldAddrD (En X) 78 l o 1 = some (.dp l (o + 1)) := by kernel_rfl
theorem bS53_1 (X : T Ext) (id : Nat) (x0_0 : C) : buildSlice (En X) 53 1 [(0, (.c x0_0))] id = some (vc (.sl id 0 1 (some 1) 1), .row (mkRow [x0_0])) := by kernel_rfl
theorem el53 (X : T Ext) : elemTI (En X) 53 = some (tiN 40) := by kernel_rfl
theorem ti40 : (tiN 40).size = 1 ∧ (tiN 40).bytes = 24 := ⟨by kernel_rfl, by kernel_rfl⟩
theorem fn28 (X : T Ext) : (En X).fns.get 28 = some Tryz.f28 := by kernel_rfl
theorem kp28 (X : T Ext) : (En X).kps.get 28 = some 1027 := by kernel_rfl
theorem fn30 (X : T Ext) : (En X).fns.get 30 = some Tryz.f30 := by kernel_rfl
theorem kp30 (X : T Ext) : (En X).kps.get 30 = some 17367851 := by kernel_rfl
theorem fA_80_2 (X : T Ext) (b o : Nat) : fieldAddr (En X) 80 b o 2 = some (.ptr b (o + 2)) := fA_of (by kernel_rfl) b o
theorem fD_80_2 (X : T Ext) (l : List D) (o : Nat) : fieldAddrD (En X) 80 l o 2 = some (.dp l (o + 2)) := by kernel_rfl
theorem fn31 (X : T Ext) : (En X).fns.get 31 = some Tryz.f31 := by kernel_rfl
theorem kp31 (X : T Ext) : (En X).kps.get 31 = some 21 := by kernel_rfl
theorem fn47 (X : T Ext) : (En X).fns.get 47 = some Tryz.f47 := by kernel_rfl
theorem kp47 (X : T Ext) : (En X).kps.get 47 = some 147 := by kernel_rfl
theorem fn48 (X : T Ext) : (En X).fns.get 48 = some Tryz.f48 := by kernel_rfl
theorem kp48 (X : T Ext) : (En X).kps.get 48 = some 2199 := by kernel_rfl
theorem fn49 (X : T Ext) : (En X).fns.get 49 = some Tryz.f49 := by kernel_rfl
theorem kp49 (X : T Ext) : (En X).kps.get 49 = some 23 := by kernel_rfl
theorem fA_65_1 (X : T Ext) (b o : Nat) : fieldAddr (En X) 65 b o 1 = some (.ptr b (o + 1)) := fA_of (by kernel_rfl) b o
theorem fD_65_1 (X : T Ext) (l : List D) (o : Nat) : fieldAddrD (En X) 65 l o 1 = some (.dp l (o + 1)) := by kernel_rfl
theorem fn46 (X : T Ext) : (En X).fns.get 46 = some Tryz.f46 := by kernel_rfl
theorem kp46 (X : T Ext) : (En X).kps.get 46 = some 5 := by kernel_rfl
theorem fn8 (X : T Ext) : (En X).fns.get 8 = some Tryz.f8 := by kernel_rfl
theorem kp8 (X : T Ext) : (En X).kps.get 8 = some 262301 := by kernel_rfl
theorem fn9 (X : T Ext) : (En X).fns.get 9 = some Tryz.f9 := by kernel_rfl
theorem kp9 (X : T Ext) : (En X).kps.get 9 = some 16782067 := by kernel_rfl
theorem fn10 (X : T Ext) : (En X).fns.get 10 = some Tryz.f10 := by kernel_rfl
theorem kp10 (X : T Ext) : (En X).kps.get 10 = some 34361852221 := by kernel_rfl
theorem uint5 (X : T Ext) : undT (En X) 5 = some (.int .u8) := by kernel_rfl
theorem isNew21 (X : T Ext) : isNew (En X) 21 = false := by kernel_rfl
theorem fn12 (X : T Ext) : (En X).fns.get 12 = some Tryz.f12 := by kernel_rfl
theorem kp12 (X : T Ext) : (En X).kps.get 12 = some 8883 := by kernel_rfl
theorem fn22 (X : T Ext) : (En X).fns.get 22 = some Tryz.f22 := by kernel_rfl
theorem kp22 (X : T Ext) : (En X).kps.get 22 = some 133309 := by kernel_rfl
theorem fn23 (X : T Ext) : (En X).fns.get 23 = some Tryz.f23 := by kernel_rfl
theorem kp23 (X : T Ext) : (En X).kps.get 23 = some 5 := by kernel_rfl
theorem fn38 (X : T Ext) : (En X).fns.get 38 = some Tryz.f38 := by kernel_rfl
theorem kp38 (X : T Ext) : (En X).kps.get 38 = some 65549 := by kernel_rfl
theorem fn70 (X : T Ext) : (En X).fns.get 70 = some Tryz.f70 := by kernel_rfl
theorem kp70 (X : T Ext) : (En X).kps.get 70 = some 65971 := by kernel_rfl
theorem tab40 (X : T Ext) : (En X).tab.get 40 = some (tiN 40) := by kernel_rfl
theorem tis40 : (tiN 40).size = 1 := by kernel_rfl
theorem tia40 : (tiN 40).isAgg = false := by kernel_rfl
theorem ld40 (X : T Ext) (l : List D) (o : Nat) : loadD (En X) 40 l o = ldC l o := loadD_one (tab40 X) tis40 tia40 l o
theorem ldh40 (X : T Ext) (look : Look) (b o : Nat) : load (En X) 40 look b o = ldHC look b o := load_one (tab40 X) tis40 tia40 look b o
theorem tab53 (X : T Ext) : (En X).tab.get 53 = some (tiN 53) := by kernel_rfl
theorem tis53 : (tiN 53).size = 1 := by kernel_rfl
theorem tia53 : (tiN 53).isAgg = false := by kernel_rfl
theorem ld53 (X : T Ext) (l : List D) (o : Nat) : loadD (En X) 53 l o = ldC l o := loadD_one (tab53 X) tis53 tia53 l o
theorem ldh53 (X : T Ext) (look : Look) (b o : Nat) : load (En X) 53 look b o = ldHC look b o := load_one (tab53 X) tis53 tia53 look b o
end Ws
