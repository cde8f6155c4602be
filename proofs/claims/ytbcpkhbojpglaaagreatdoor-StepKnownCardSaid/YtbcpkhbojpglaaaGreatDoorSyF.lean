import Derived.Test.YtbcpkhbojpglaaaGreatDoorEwG
import Derived.Test.YtbcpkhbojpglaaaGreatDoorSyA
import Derived.Test.YtbcpkhbojpglaaaGreatDoorProg
import Derived.KernelRfl
namespace Sy
open Go Go.Proofs Ev
set_option maxRecDepth 1000000
noncomputable def En (X : T Ext) : Env := { tab := tabT Tryz.prog Tryz.prog.types.toList 0 .nil, fns := T.ofL Tryz.prog.funcs.toList, ext := X, kps := pairT kps .nil }
theorem En_of (exts : List (Nat × Ext)) : envOf Tryz.prog exts kps = En (pairT exts .nil) := rfl
noncomputable def tiN (t : Nat) : TI := match (En .nil).tab.get t with
  | some i => i
  | none => ⟨0, 0, none, .bool, false⟩
theorem fn5 (X : T Ext) : (En X).fns.get 5 = some Tryz.f5 := by kernel_rfl
theorem kp5 (X : T Ext) : (En X).kps.get 5 = some 16777695 := by kernel_rfl
theorem al40 (X : T Ext) (id : Nat) : nAlloc (En X) 40 id = some (vc (.ptr id 0), .row (mkRow [.nils, .nils, .nils, .nils, .int .i64 0, .str ⟨0, 0⟩, .str ⟨0, 0⟩, .int .i64 0, .int .i64 0, .str ⟨0, 0⟩, .int .i64 0, .str ⟨0, 0⟩, .nils, .int .i64 0, .int .i64 0, .bool false, .bool false, .int .i64 0, .nils, .nils, .str ⟨0, 0⟩])) := by kernel_rfl
theorem uint3 (X : T Ext) : undT (En X) 3 = some (.int .i64) := by kernel_rfl
theorem fA_40_10 (X : T Ext) (b o : Nat) : fieldAddr (En X) 40 b o 10 = some (.ptr b (o + 15)) := fA_of (by kernel_rfl) b o
theorem fD_40_10 (X : T Ext) (l : List D) (o : Nat) : fieldAddrD (En X) 40 l o 10 = some (.dp l (o + 15)) := by kernel_rfl
theorem fA_40_11 (X : T Ext) (b o : Nat) : fieldAddr (En X) 40 b o 11 = some (.ptr b (o + 16)) := fA_of (by kernel_rfl) b o
theorem fD_40_11 (X : T Ext) (l : List D) (o : Nat) : fieldAddrD (En X) 40 l o 11 = some (.dp l (o + 16)) := by kernel_rfl
theorem fn29 (X : T Ext) : (En X).fns.get 29 = some Tryz.f29 := by kernel_rfl
theorem kp29 (X : T Ext) : (En X).kps.get 29 = some 133 := by kernel_rfl
theorem us36 (X : T Ext) : undT (En X) 36 = some (.slice 97) := by kernel_rfl
theorem sz97 (X : T Ext) : sizeT (En X) 97 = some 14 := by kernel_rfl
theorem bS36_0 (X : T Ext) (id : Nat) : buildSlice (En X) 36 0 [] id = some (vc (.sl id 0 0 (some 0) 14), .row (mkRow [])) := by kernel_rfl
theorem el36 (X : T Ext) : elemTI (En X) 36 = some (tiN 97) := by kernel_rfl
theorem ti97 : (tiN 97).size = 14 ∧ (tiN 97).bytes = 200 := ⟨by kernel_rfl, by kernel_rfl⟩
theorem tab40 (X : T Ext) : (En X).tab.get 40 = some (tiN 40) := by kernel_rfl
theorem tis40 : (tiN 40).size = 21 := by kernel_rfl
theorem tia40 : (tiN 40).isAgg = true := by kernel_rfl
theorem ld40 (X : T Ext) (l : List D) (o : Nat) : loadD (En X) 40 l o = ldA 21 l o := loadD_agg (tab40 X) tis40 tia40 l o
theorem ldh40 (X : T Ext) (look : Look) (b o : Nat) : load (En X) 40 look b o = ldHA 21 look b o := load_agg (tab40 X) tis40 tia40 look b o
theorem tab4 (X : T Ext) : (En X).tab.get 4 = some (tiN 4) := by kernel_rfl
theorem tis4 : (tiN 4).size = 1 := by kernel_rfl
theorem tia4 : (tiN 4).isAgg = false := by kernel_rfl
theorem ld4 (X : T Ext) (l : List D) (o : Nat) : loadD (En X) 4 l o = ldC l o := loadD_one (tab4 X) tis4 tia4 l o
theorem ldh4 (X : T Ext) (look : Look) (b o : Nat) : load (En X) 4 look b o = ldHC look b o := load_one (tab4 X) tis4 tia4 look b o
theorem tab26 (X : T Ext) : (En X).tab.get 26 = some (tiN 26) := by kernel_rfl
theorem tis26 : (tiN 26).size = 2 := by kernel_rfl
theorem tia26 : (tiN 26).isAgg = true := by kernel_rfl
theorem ld26 (X : T Ext) (l : List D) (o : Nat) : loadD (En X) 26 l o = ldA 2 l o := loadD_agg (tab26 X) tis26 tia26 l o
theorem ldh26 (X : T Ext) (look : Look) (b o : Nat) : load (En X) 26 look b o = ldHA 2 look b o := load_agg (tab26 X) tis26 tia26 look b o
end Sy
