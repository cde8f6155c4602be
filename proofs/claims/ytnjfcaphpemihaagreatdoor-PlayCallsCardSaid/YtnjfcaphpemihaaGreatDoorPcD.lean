import Derived.Test.YtnjfcaphpemihaaGreatDoorPcC
import Derived.Test.YtnjfcaphpemihaaGreatDoorEwG
import Derived.Test.YtnjfcaphpemihaaGreatDoorEwL
namespace Pc
open Go Go.Proofs Ev
set_option linter.unusedVariables false
set_option linter.unusedSimpArgs false
set_option maxRecDepth 100000
open Classical in
theorem goC_eq {E : Env} {f z : Nat} {p : List D → Prop} {a b : D} {s : St} {K : V → St → Prop} (hx : E.ext.get f = some (.fn (ofG (REq z p)) [])) (ha : Good z p a) (hb : Good z p b) (hk : ∀ t : Bool, (t = true ↔ els a = els b) → K (.w (.c (.bool t))) s) :
    goC E f [.c a.toC, .c b.toC] s K := by
  have hp : ∀ d, Good z p d → d.plain = true := by
    rintro d ⟨h, _, _⟩
    rcases h with rfl | ⟨l, rfl, _⟩ <;> rfl
  exact goC_fn (ps := [.c a, .c b]) hx ⟨a, b, decide (els a = els b), rfl, ha, hb, by simp, rfl⟩ (by
    rintro v' ⟨a', b', t, h1, _, _, h2, rfl⟩
    cases h1
    have : t = decide (els a = els b) := by rw [Bool.eq_iff_iff, h2]; simp
    rw [this]) (by simp [PW.plain, hp a ha, hp b hb]) (hk _ (by simp))
theorem eq_contract {exts : List (Nat × Ext)} (f z : Nat) (p : List D → Prop) (hx : ∀ q ∈ exts, ExtOne Tryz.prog Tryz.prog.globals.size q.1 q.2) (hf : (pairT exts .nil).get f = none)
    (h : ∀ a b s K, Good z p a → Good z p b → (∀ (t : Bool) s', (t = true ↔ els a = els b) → K (vc (.bool t)) s') → goC (En (pairT exts .nil)) f [.c a.toC, .c b.toC] s K) (any : Tryz.prog.follows .mixedOrders = true) (ty : typesOk Tryz.prog = true) (fo : kps.all (fun p => fnOk Tryz.prog p.1) = true) :
    ExtOne Tryz.prog Tryz.prog.globals.size f (.fn (ofG (REq z p)) []) :=
  fn_of_go any ty fo hx hf _ (by
    rintro ps pv ⟨a, b, t, rfl, ha, hb, ht, rfl⟩
    refine h a b _ _ ha hb fun t' s' ht' => ⟨[], ?_⟩
    have : t' = t := by rw [Bool.eq_iff_iff, ht, ht']
    rw [this]; rfl)
def SameC (x y : List D) : Prop := x.getD 0 .nils = y.getD 0 .nils ∧ els (x.getD 1 .nils) = els (y.getD 1 .nils) ∧ els (x.getD 2 .nils) = els (y.getD 2 .nils) ∧ x.getD 3 .nils = y.getD 3 .nils
theorem rows2 (s : St) (l r : List C) : LRow ((s.new (.row (mkRow l))).new (.row (mkRow r))) s.nx l ∧ LRow ((s.new (.row (mkRow l))).new (.row (mkRow r))) (s.nx + 1) r := by
  constructor
  · exact (LRow.new s l).keep (new_old _ _ (by rw [St.new_nx]; omega))
  · have := LRow.new (s.new (.row (mkRow l))) r
    rwa [St.new_nx] at this
theorem call19 (X : T Ext) (hX : (En X).ext.get 15 = none) (h31 : (En X).ext.get 23 = some (.fn (ofG (REq 1 Str1)) [])) (h28 : (En X).ext.get 14 = some (.fn (ofG (REq 2 Str2)) [])) (x y : List D) (s : St) (hx : GoodC x) (hy : GoodC y) (K : V → St → Prop)
    (hK : ∀ (t : Bool) s', (t = true ↔ SameC x y) → K (vc (.bool t)) s') : goC (En X) 15 [.agg (cellsD x), .agg (cellsD y)] s K := by
  obtain ⟨n, av, vs, inp, rfl, hav, hvs, _⟩ := hx
  obtain ⟨n', av', vs', inp', rfl, hav', hvs', _⟩ := hy
  refine goC_body hX (kp15 X) (fn15 X) rfl (by kernel_rfl) ?_
  simp only [zEV, Nat.reduceShiftRight, Nat.reduceMod, Nat.reduceEqDiff, Nat.reduceAdd, ↓reduceIte, reduceCtorEq, cellsD_cons, cellsD_nil, toC_int, toC_strD, St.new_nx]
  obtain ⟨r1, r2⟩ := rows2 s [.int .i64 n, av.toC, vs.toC, .str (Str.ofL inp)] [.int .i64 n', av'.toC, vs'.toC, .str (Str.ofL inp')]
  generalize ((s.new (.row (mkRow [.int .i64 n, av.toC, vs.toC, .str (Str.ofL inp)]))).new (.row (mkRow [.int .i64 n', av'.toC, vs'.toC, .str (Str.ofL inp')]))) = s2 at r1 r2 ⊢
  have a0 := r1.ldC (o := 0) rfl
  have a1 := r1.ldC (o := 1) rfl
  have a2 := r1.ldC (o := 2) rfl
  have a3 := r1.ldC (o := 3) rfl
  have b0 := r2.ldC (o := 0) rfl
  have b1 := r2.ldC (o := 1) rfl
  have b2 := r2.ldC (o := 2) rfl
  have b3 := r2.ldC (o := 3) rfl
  by_cases h1 : n = n'
  case neg =>
    have h1' : (n = n') = False := by simpa using h1
    simp only [zEV, Nat.reduceShiftRight, Nat.reduceMod, Nat.reduceEqDiff, Nat.reduceAdd, ↓reduceIte, reduceCtorEq, fA_38_0, fA_38_1, fA_38_2, fA_38_3, ldh3, ldh36, ldh25, ldh9, a0, a1, a2, a3, b0, b1, b2, b3, h1']
    exact hK false _ ⟨(fun h => by cases h), fun h => absurd (by simpa using h.1) h1⟩
  subst h1
  have key : ∀ t1 t2 : Bool, (t1 = true ↔ els av = els av') → (t2 = true ↔ els vs = els vs') → ((t1 && (t2 && (inp == inp'))) = true ↔ SameC [.int .i64 n, av, vs, .str (Str.ofL inp)] [.int .i64 n, av', vs', .str (Str.ofL inp')]) := by
    intro t1 t2 e1 e2
    have e3 : (inp == inp') = true ↔ D.str (Str.ofL inp) = D.str (Str.ofL inp') := by
      rw [beq_iff_eq]
      exact ⟨fun h => by rw [h], fun h => ofL_inj (D.str.inj h)⟩
    rw [Bool.and_eq_true, Bool.and_eq_true, e1, e2, e3]
    simp [SameC]
  simp only [zEV, Nat.reduceShiftRight, Nat.reduceMod, Nat.reduceEqDiff, Nat.reduceAdd, ↓reduceIte, reduceCtorEq, fA_38_0, fA_38_1, fA_38_2, fA_38_3, ldh3, ldh36, ldh25, ldh9, a0, a1, a2, a3, b0, b1, b2, b3, eq_self]
  refine go_call _ _ _ _ _ _ (ws := [.c av.toC, .c av'.toC]) rfl (by simp only [zEA, Nat.reduceShiftRight, Nat.reduceMod, Nat.reduceEqDiff, Nat.reduceAdd, ↓reduceIte, reduceCtorEq, argsOf_cons, argsOf_nil]) ?_
  refine goC_eq h31 hav hav' fun t1 e1 => ?_
  cases t1 with
  | false =>
    simp only [zEV, Nat.reduceShiftRight, Nat.reduceMod, Nat.reduceEqDiff, Nat.reduceAdd, ↓reduceIte, reduceCtorEq, fA_38_0, fA_38_1, fA_38_2, fA_38_3, ldh3, ldh36, ldh25, ldh9, a0, a1, a2, a3, b0, b1, b2, b3, eq_self]
    refine hK false _ ⟨(fun h => by cases h), fun h => absurd (e1.2 h.2.1) (by simp)⟩
  | true =>
    simp only [zEV, Nat.reduceShiftRight, Nat.reduceMod, Nat.reduceEqDiff, Nat.reduceAdd, ↓reduceIte, reduceCtorEq, fA_38_0, fA_38_1, fA_38_2, fA_38_3, ldh3, ldh36, ldh25, ldh9, a0, a1, a2, a3, b0, b1, b2, b3, eq_self]
    refine go_call _ _ _ _ _ _ (ws := [.c vs.toC, .c vs'.toC]) rfl (by simp only [zEA, Nat.reduceShiftRight, Nat.reduceMod, Nat.reduceEqDiff, Nat.reduceAdd, ↓reduceIte, reduceCtorEq, argsOf_cons, argsOf_nil]) ?_
    refine goC_eq h28 hvs hvs' fun t2 e2 => ?_
    cases t2 with
    | false =>
      simp only [zEV, Nat.reduceShiftRight, Nat.reduceMod, Nat.reduceEqDiff, Nat.reduceAdd, ↓reduceIte, reduceCtorEq, fA_38_0, fA_38_1, fA_38_2, fA_38_3, ldh3, ldh36, ldh25, ldh9, a0, a1, a2, a3, b0, b1, b2, b3, eq_self]
      refine hK false _ ⟨(fun h => by cases h), fun h => absurd (e2.2 h.2.2.1) (by simp)⟩
    | true =>
      simp only [zEV, Nat.reduceShiftRight, Nat.reduceMod, Nat.reduceEqDiff, Nat.reduceAdd, ↓reduceIte, reduceCtorEq, fA_38_0, fA_38_1, fA_38_2, fA_38_3, ldh3, ldh36, ldh25, ldh9, a0, a1, a2, a3, b0, b1, b2, b3, eq_self]
      exact hK _ _ (by simpa using key true true e1 e2)
end Pc
