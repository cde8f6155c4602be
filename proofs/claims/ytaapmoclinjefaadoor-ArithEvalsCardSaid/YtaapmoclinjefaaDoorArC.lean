import Derived.Test.YtaapmoclinjefaaDoorArB
import Derived.Test.YtaapmoclinjefaaDoorArP
import Derived.Test.YtaapmoclinjefaaDoorEwI
import Derived.Test.YtaapmoclinjefaaDoorEwJ
import Derived.Test.YtaapmoclinjefaaDoorEwL
namespace Ar
open Go Go.Proofs Ev Go.Lib Nu
set_option linter.unusedVariables false
set_option linter.unusedSimpArgs false
set_option linter.unnecessarySimpa false
set_option maxRecDepth 100000
theorem lor_eq (a b : Nat) : Nat.lor a b = a ||| b := rfl
theorem land_eq (a b : Nat) : Nat.land a b = a &&& b := rfl
theorem shl_eq (a b : Nat) : Nat.shiftLeft a b = a <<< b := rfl
theorem nbeq_eq (a b : Nat) : (Nat.beq a b = true) = (a = b) := propext ⟨Nat.eq_of_beq_eq_true, fun h => by subst h; exact Nat.beq_refl _⟩
theorem again_eq (E : Env) (f : Env → A → Look → Option V) (a : A) (s : St) (v : V) : again E f a s v = match f E a s.h.get with
  | some u => V.same u v
  | none => false := rfl
theorem V_same_toC (d : D) : V.same (.w (.c d.toC)) (.w (.c d.toC)) = true := C.same_toC d
theorem V_same_dat (z : Nat) (l : List (List D)) : V.same (.w (.c (.dat z l))) (.w (.c (.dat z l))) = true := C.same_toC (.sl z l)
theorem dg_build {E : Env} {ks : Nat} {k : List Fr} {Q : Ex → A → St → Prop} (ops : List Oper) {base : Nat} {tl l : List Oper} {m : Nat} {ms : List Nat} {j : Nat} {a : A} {s : St} {gs : List (Nat × St)} {rs : List Rd} {eff : Nat} (dst : Option Nat) (ty : TypeId) (pos : String) (af : Array Edge) (t : TypeId) (ps : Array (Nat × Operand)) : dg E ks ops base tl k Q (⟨dst, .build t ps, ty, pos, af, none⟩ :: l) (m :: ms) j a s gs rs eff = dgO E ks (rBuild E a t ps.toList) ops base tl l ms j dst k a s gs rs eff Q := dg_r ops l dst ty pos af (op := .build t ps) (f := fun E a _ => rBuild E a t ps.toList) rfl
theorem dg_box {E : Env} {ks : Nat} {k : List Fr} {Q : Ex → A → St → Prop} (ops : List Oper) {base : Nat} {tl l : List Oper} {m : Nat} {ms : List Nat} {j : Nat} {a : A} {s : St} {gs : List (Nat × St)} {rs : List Rd} {eff : Nat} (dst : Option Nat) (ty : TypeId) (pos : String) (af : Array Edge) (t : TypeId) (x : Operand) : dg E ks ops base tl k Q (⟨dst, .box t x, ty, pos, af, none⟩ :: l) (m :: ms) j a s gs rs eff = dgN E ks (nBox a x (base + j)) ops base tl l ms j dst k a s gs rs eff Q := dg_n ops l dst ty pos af (op := .box t x) (f := fun _ a id => nBox a x id) rfl
theorem rBuild_eq (E : Env) (a : A) (t : Nat) (ps : List (Nat × Operand)) : rBuild E a t ps = match partsOf a ps with
  | some l => retW (build E t l)
  | none => none := rfl
theorem opnd_glob (a : A) (g : Nat) : opnd a (.global g) = vc (.ptr g 0) := rfl
theorem opC_glob (a : A) (g : Nat) : opC a (.global g) = some (.ptr g 0) := rfl
theorem V_same_unk : V.same (.w (.c .unk)) (.w (.c .unk)) = true := rfl
theorem bu70 (X : T Ext) (c1 c2 c3 : C) : build (En X) 101 [(0, .c c1), (1, .c c2), (2, .c c3)] = some (.agg [c1, c2, c3]) := by kernel_rfl
theorem callR_clone {X : T Ext} (h40 : (En X).ext.get 76 = some .same) (l : List UInt8) (hl : l.length ≤ 140737488351232) (s : St) : CallR (En X) 76 [.c (.str (Str.ofL l))] s (vc (.str (Str.ofL l))) s := by
  refine callR_ext h40 ?_
  show (match Nat.ble (Str.ofL l).len 281474976710656 with
      | true => VS.ok (vc (.str (Str.ofL l))) s
      | false => .no) = _
  rw [show Nat.ble (Str.ofL l).len 281474976710656 = true from nble_true (show l.length ≤ 281474976710656 by omega)]
theorem syntax24 (X : T Ext) (hX : (En X).ext.get 54 = none) (h40 : (En X).ext.get 76 = some .same) (z : Str) (l : List UInt8) (hl : l.length ≤ 140737488351232) (s : St) (hg : ldHC s.h.get 1 0 = some (.c .unk)) (K : V → St → Prop) (hK : ∀ b s', K (vc (.ptr b 0)) s') :
    goC (En X) 54 [.c (.str z), .c (.str (Str.ofL l))] s K := by
  refine goC_body hX (kp54 X) (fn54 X) rfl (by kernel_rfl) ?_
  have hres : Tryd.f54.results.toList = [.tmp 4] := rfl
  simp only [zEV, Nat.reduceShiftRight, Nat.reduceMod, Nat.reduceEqDiff, Nat.reduceAdd, ↓reduceIte, reduceCtorEq]
  refine go_drawD _ _ 6 7 [0, 0, 2, 0, 15, 31, 63] rfl (by kernel_rfl) (by kernel_rfl) (by kernel_rfl) ?_
  simp only [Array.toList, List.take_succ_cons, List.take_zero, List.drop_succ_cons, List.drop_zero, zEV, Nat.reduceShiftRight, Nat.reduceMod, Nat.reduceEqDiff, Nat.reduceAdd, ↓reduceIte, reduceCtorEq, zDG, Nat.reduceOr, Nat.reduceAnd, Nat.reduceShiftLeft, Nat.reduceLT]
  refine dg_call _ _ _ _ _ _ (ws := [.c (.str (Str.ofL l))]) rfl (by simp only [zEA, Nat.reduceShiftRight, Nat.reduceMod, Nat.reduceEqDiff, Nat.reduceAdd, ↓reduceIte, reduceCtorEq, argsOf_cons, argsOf_nil]) (callR_clone h40 l hl _) (by decide) (by simp only [zEV, Nat.reduceShiftRight, Nat.reduceMod, Nat.reduceEqDiff, Nat.reduceAdd, ↓reduceIte, reduceCtorEq, zDG, Nat.reduceOr, Nat.reduceAnd, Nat.reduceShiftLeft, Nat.reduceLT]) ?_
  simp only [zEV, Nat.reduceShiftRight, Nat.reduceMod, Nat.reduceEqDiff, Nat.reduceAdd, ↓reduceIte, reduceCtorEq, zDG, Nat.reduceOr, Nat.reduceAnd, Nat.reduceShiftLeft, Nat.reduceLT, opC_glob, ldh62, hg, V_same_unk, dg_build, rBuild_eq, partsOf_cons, partsOf_nil, bu70, dg_box, nBox_eq, hres]
  exact hK _ _
theorem range25 (X : T Ext) (hX : (En X).ext.get 55 = none) (h40 : (En X).ext.get 76 = some .same) (z : Str) (l : List UInt8) (hl : l.length ≤ 140737488351232) (s : St) (hg : ldHC s.h.get 2 0 = some (.c .unk)) (K : V → St → Prop) (hK : ∀ b s', K (vc (.ptr b 0)) s') :
    goC (En X) 55 [.c (.str z), .c (.str (Str.ofL l))] s K := by
  refine goC_body hX (kp55 X) (fn55 X) rfl (by kernel_rfl) ?_
  have hres : Tryd.f55.results.toList = [.tmp 4] := rfl
  simp only [zEV, Nat.reduceShiftRight, Nat.reduceMod, Nat.reduceEqDiff, Nat.reduceAdd, ↓reduceIte, reduceCtorEq]
  refine go_drawD _ _ 6 7 [0, 0, 2, 0, 15, 31, 63] rfl (by kernel_rfl) (by kernel_rfl) (by kernel_rfl) ?_
  simp only [Array.toList, List.take_succ_cons, List.take_zero, List.drop_succ_cons, List.drop_zero, zEV, Nat.reduceShiftRight, Nat.reduceMod, Nat.reduceEqDiff, Nat.reduceAdd, ↓reduceIte, reduceCtorEq, zDG, Nat.reduceOr, Nat.reduceAnd, Nat.reduceShiftLeft, Nat.reduceLT]
  refine dg_call _ _ _ _ _ _ (ws := [.c (.str (Str.ofL l))]) rfl (by simp only [zEA, Nat.reduceShiftRight, Nat.reduceMod, Nat.reduceEqDiff, Nat.reduceAdd, ↓reduceIte, reduceCtorEq, argsOf_cons, argsOf_nil]) (callR_clone h40 l hl _) (by decide) (by simp only [zEV, Nat.reduceShiftRight, Nat.reduceMod, Nat.reduceEqDiff, Nat.reduceAdd, ↓reduceIte, reduceCtorEq, zDG, Nat.reduceOr, Nat.reduceAnd, Nat.reduceShiftLeft, Nat.reduceLT]) ?_
  simp only [zEV, Nat.reduceShiftRight, Nat.reduceMod, Nat.reduceEqDiff, Nat.reduceAdd, ↓reduceIte, reduceCtorEq, zDG, Nat.reduceOr, Nat.reduceAnd, Nat.reduceShiftLeft, Nat.reduceLT, opC_glob, ldh62, hg, V_same_unk, dg_build, rBuild_eq, partsOf_cons, partsOf_nil, bu70, dg_box, nBox_eq, hres]
  exact hK _ _
theorem mkI49 (X : T Ext) (a : A) (n : Int) : rMakeInterface (En X) a 85 (.const (.int .i64 n)) = some (vc (.ifc 85 (.int .i64 n))) := by
  unfold rMakeInterface
  rw [show notIface (En X) 85 = true by kernel_rfl]; rfl
theorem mkI53 (X : T Ext) (a : A) (x : Operand) : rMakeInterface (En X) a 89 x = match opW a x with
    | some (.c c) => some (vc (.ifc 89 c))
    | some (.agg []) => some (vc (.ife 89))
    | _ => none := by
  unfold rMakeInterface
  rw [show notIface (En X) 89 = true by kernel_rfl]; rfl
theorem b_i22 (X : T Ext) (ox oy : Operand) : Ev.binOp (En X) .eql 62 ox oy (.c (.ifc 85 (.int .i64 2))) (.c (.ifc 85 (.int .i64 2))) = some (vc (.bool true)) := by kernel_rfl
theorem b_i12 (X : T Ext) (ox oy : Operand) : Ev.binOp (En X) .eql 62 ox oy (.c (.ifc 85 (.int .i64 1))) (.c (.ifc 85 (.int .i64 2))) = some (vc (.bool false)) := by kernel_rfl
theorem b_i11 (X : T Ext) (ox oy : Operand) : Ev.binOp (En X) .eql 62 ox oy (.c (.ifc 85 (.int .i64 1))) (.c (.ifc 85 (.int .i64 1))) = some (vc (.bool true)) := by kernel_rfl
theorem toError18s (X : T Ext) (hX : (En X).ext.get 44 = none) (hX24 : (En X).ext.get 54 = none) (h40 : (En X).ext.get 76 = some .same) (z : Str) (l : List UInt8) (hl : l.length ≤ 140737488351232) (s : St) (hg : ldHC s.h.get 1 0 = some (.c .unk)) (K : V → St → Prop) (hK : ∀ c s', K (vc (.ifc 89 c)) s') :
    goC (En X) 44 [.c (.str z), .c (.str (Str.ofL l)), .c (.int .i64 10), .c (.int .i64 64), .c (.ifc 85 (.int .i64 2))] s K := by
  refine goC_body hX (kp44 X) (fn44 X) rfl (by kernel_rfl) ?_
  have hres : Tryd.f44.results.toList = [.tmp 10] := rfl
  simp only [zEV, Nat.reduceShiftRight, Nat.reduceMod, Nat.reduceEqDiff, Nat.reduceAdd, ↓reduceIte, reduceCtorEq, go_makeInterface, mkI49, b_i22]
  refine go_call _ _ _ _ _ _ (ws := [.c (.str z), .c (.str (Str.ofL l))]) rfl (by simp only [zEA, Nat.reduceShiftRight, Nat.reduceMod, Nat.reduceEqDiff, Nat.reduceAdd, ↓reduceIte, reduceCtorEq, argsOf_cons, argsOf_nil]) ?_
  refine syntax24 X hX24 h40 z l hl _ hg _ fun b s2 => ?_
  simp only [zEV, Nat.reduceShiftRight, Nat.reduceMod, Nat.reduceEqDiff, Nat.reduceAdd, ↓reduceIte, reduceCtorEq, go_makeInterface, mkI53, hres]
  exact hK _ _
theorem toError18r (X : T Ext) (hX : (En X).ext.get 44 = none) (hX25 : (En X).ext.get 55 = none) (h40 : (En X).ext.get 76 = some .same) (z : Str) (l : List UInt8) (hl : l.length ≤ 140737488351232) (s : St) (hg : ldHC s.h.get 2 0 = some (.c .unk)) (K : V → St → Prop) (hK : ∀ c s', K (vc (.ifc 89 c)) s') :
    goC (En X) 44 [.c (.str z), .c (.str (Str.ofL l)), .c (.int .i64 10), .c (.int .i64 64), .c (.ifc 85 (.int .i64 1))] s K := by
  refine goC_body hX (kp44 X) (fn44 X) rfl (by kernel_rfl) ?_
  have hres : Tryd.f44.results.toList = [.tmp 10] := rfl
  simp only [zEV, Nat.reduceShiftRight, Nat.reduceMod, Nat.reduceEqDiff, Nat.reduceAdd, ↓reduceIte, reduceCtorEq, go_makeInterface, mkI49, b_i12, b_i11]
  refine go_call _ _ _ _ _ _ (ws := [.c (.str z), .c (.str (Str.ofL l))]) rfl (by simp only [zEA, Nat.reduceShiftRight, Nat.reduceMod, Nat.reduceEqDiff, Nat.reduceAdd, ↓reduceIte, reduceCtorEq, argsOf_cons, argsOf_nil]) ?_
  refine range25 X hX25 h40 z l hl _ hg _ fun b s2 => ?_
  simp only [zEV, Nat.reduceShiftRight, Nat.reduceMod, Nat.reduceEqDiff, Nat.reduceAdd, ↓reduceIte, reduceCtorEq, go_makeInterface, mkI53, hres]
  exact hK _ _
theorem b_nili (X : T Ext) (t : Nat) : Ev.binOp (En X) .neq 62 (.tmp t) (.const .nilIface) (.c .nili) (.c .nili) = some (vc (.bool false)) := by kernel_rfl
theorem opnd_nili (a : A) : opnd a (.const .nilIface) = vc .nili := rfl
theorem opW_nili (a : A) : opW a (.const .nilIface) = some (.c .nili) := rfl
theorem opC_nili (a : A) : opC a (.const .nilIface) = some .nili := rfl
theorem b_ifcn (X : T Ext) (ox oy : Operand) (t : Nat) (c : C) : Ev.binOp (En X) .neq 62 ox oy (.c (.ifc t c)) (.c .nili) = some (vc (.bool true)) := by kernel_rfl
theorem parse10 (X : T Ext) (hX : (En X).ext.get 29 = none) (hX18 : (En X).ext.get 44 = none) (hX24 : (En X).ext.get 54 = none) (hX25 : (En X).ext.get 55 = none) (h17 : (En X).ext.get 43 = some (.fn (ofG RPi) [])) (h40 : (En X).ext.get 76 = some .same)
    (l : List UInt8) (hl : l.length ≤ 140737488351232) (s : St) (hg1 : ldHC s.h.get 1 0 = some (.c .unk)) (hg2 : ldHC s.h.get 2 0 = some (.c .unk)) (K : V → St → Prop)
    (hK : ∀ n s', parseIntB 64 l = .ok n → K (.tup [.c (.int .i64 n), .c .nili]) s') (hE : ∀ n c s', (∀ v, parseIntB 64 l ≠ .ok v) → K (.tup [.c (.int .i64 n), .c (.ifc 89 c)]) s') :
    goC (En X) 29 [.c (.str (Str.ofL l)), .c (.int .i64 10), .c (.int .i64 64)] s K := by
  refine goC_body hX (kp29 X) (fn29 X) rfl (by kernel_rfl) ?_
  have hres : Tryd.f29.results.toList = [.tmp 6, .tmp 7] := rfl
  have hcall : CallR (En X) 43 [.c (.str (Str.ofL l)), .c (.int .i64 10), .c (.int .i64 64)] s (piV l).toV s :=
    callR_fn (ps := [.c (.str (Str.ofL l)), .c (.int .i64 10), .c (.int .i64 64)]) h17 (ofG_eq ⟨l, rfl, hl, rfl⟩ (by
      rintro v' ⟨l', h1, _, rfl⟩
      have : l' = l := by
        simp only [List.cons.injEq, PW.c.injEq, D.str.injEq] at h1
        exact (ofL_inj h1.1).symm
      rw [this])) rfl
  simp only [zEV, Nat.reduceShiftRight, Nat.reduceMod, Nat.reduceEqDiff, Nat.reduceAdd, ↓reduceIte, reduceCtorEq]
  refine go_call _ _ _ _ _ _ (ws := [.c (.str (Str.ofL l)), .c (.int .i64 10), .c (.int .i64 64)]) rfl (by simp only [zEA, Nat.reduceShiftRight, Nat.reduceMod, Nat.reduceEqDiff, Nat.reduceAdd, ↓reduceIte, reduceCtorEq, argsOf_cons, argsOf_nil]) ?_
  refine goC_of hcall ?_
  have hv : (piV l).toV = match parseIntB 64 l with
    | .ok n => .tup [.c (.int .i64 n), .c .nili]
    | .syntax => .tup [.c (.int .i64 0), .c (.ifc 85 (.int .i64 2))]
    | .range => .tup [.c (.int .i64 (intSat 64 l)), .c (.ifc 85 (.int .i64 1))] := by
    unfold piV
    cases parseIntB 64 l <;> rfl
  rw [hv]
  cases hp : parseIntB 64 l with
  | ok n =>
    simp only [zEV, Nat.reduceShiftRight, Nat.reduceMod, Nat.reduceEqDiff, Nat.reduceAdd, ↓reduceIte, reduceCtorEq, opW_nili, opnd_nili, b_nili, hres]
    exact hK _ _ hp
  | «syntax» =>
    simp only [zEV, Nat.reduceShiftRight, Nat.reduceMod, Nat.reduceEqDiff, Nat.reduceAdd, ↓reduceIte, reduceCtorEq, opW_nili, opnd_nili, b_ifcn]
    refine go_call _ _ _ _ _ _ (ws := [.c (.str (Str.of ⟨#[80, 97, 114, 115, 101, 73, 110, 116]⟩)), .c (.str (Str.ofL l)), .c (.int .i64 10), .c (.int .i64 64), .c (.ifc 85 (.int .i64 2))]) rfl (by simp only [zEA, Nat.reduceShiftRight, Nat.reduceMod, Nat.reduceEqDiff, Nat.reduceAdd, ↓reduceIte, reduceCtorEq, argsOf_cons, argsOf_nil]) ?_
    refine toError18s X hX18 hX24 h40 _ l hl _ hg1 _ fun c s2 => ?_
    simp only [zEV, Nat.reduceShiftRight, Nat.reduceMod, Nat.reduceEqDiff, Nat.reduceAdd, ↓reduceIte, reduceCtorEq, hres]
    exact hE _ _ _ (fun v h => by rw [hp] at h; exact absurd h (by simp))
  | range =>
    simp only [zEV, Nat.reduceShiftRight, Nat.reduceMod, Nat.reduceEqDiff, Nat.reduceAdd, ↓reduceIte, reduceCtorEq, opW_nili, opnd_nili, b_ifcn]
    refine go_call _ _ _ _ _ _ (ws := [.c (.str (Str.of ⟨#[80, 97, 114, 115, 101, 73, 110, 116]⟩)), .c (.str (Str.ofL l)), .c (.int .i64 10), .c (.int .i64 64), .c (.ifc 85 (.int .i64 1))]) rfl (by simp only [zEA, Nat.reduceShiftRight, Nat.reduceMod, Nat.reduceEqDiff, Nat.reduceAdd, ↓reduceIte, reduceCtorEq, argsOf_cons, argsOf_nil]) ?_
    refine toError18r X hX18 hX25 h40 _ l hl _ hg2 _ fun c s2 => ?_
    simp only [zEV, Nat.reduceShiftRight, Nat.reduceMod, Nat.reduceEqDiff, Nat.reduceAdd, ↓reduceIte, reduceCtorEq, hres]
    exact hE _ _ _ (fun v h => by rw [hp] at h; exact absurd h (by simp))
end Ar
