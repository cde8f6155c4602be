import Derived.Test.YtnjfcaphpemihaaGreatDoorPcR
import Derived.Test.YtnjfcaphpemihaaGreatDoorPkA
import Derived.Test.YtnjfcaphpemihaaGreatDoorEwG
import Derived.Test.YtnjfcaphpemihaaGreatDoorEwJ
namespace Pc
open Go Go.Proofs Ev
set_option linter.unusedVariables false
set_option linter.unusedSimpArgs false
set_option maxRecDepth 1000000
mutual
theorem forget {P : Program} {B : Nat} : ∀ {t : TypeId} {ds : List D}, ShapeW P B t ds → Shape P t ds
  | _, _, .bool t b h => .bool t b h
  | _, _, .int t k n h h1 h2 => .int t k n h h1 h2
  | _, _, .str t l h _ h2 => .str t l h h2
  | _, _, .nils t e h => .nils t e h
  | _, _, .sl t e l h h1 h2 _ => .sl t e l h h1 fun x hx => forget (h2 x hx)
  | _, _, .struct t fs l h h1 => .struct t fs l h (forgetF h1)
theorem forgetF {P : Program} {B : Nat} : ∀ {fs : List Field} {ds : List D}, ShapeWF P B fs ds → ShapeF P fs ds
  | _, _, .nil => .nil
  | _, _, .cons f fs x l h1 h2 => .cons f fs x l (forget h1) (forgetF h2)
end
theorem good_of_shape {t e : TypeId} {z : Nat} {p : List D → Prop} (hu : Tryz.prog.underlying t = some (.slice e)) (hz : Tryz.prog.cellsOf e = z) (hp : ∀ x, Shape Tryz.prog e x → x.length = z ∧ p x) {ds : List D} (h : Shape Tryz.prog t ds) : ∃ d, ds = [d] ∧ Good z p d := by
  rcases shape_slice hu h with rfl | ⟨l, rfl, h1, h2⟩
  · exact ⟨.nils, rfl, good_nils _ _⟩
  · subst hz
    refine ⟨_, rfl, ⟨.inr ⟨l, rfl, fun x hx => (hp x (h2 x hx)).1⟩, fun x hx => (hp x (h2 x hx)).2, h1⟩⟩
theorem shape_str1 {t : TypeId} (hu : Tryz.prog.underlying t = some .string) (x : List D) (h : Shape Tryz.prog t x) : x.length = 1 ∧ Str1 x := by
  obtain ⟨l, rfl⟩ := shape_string hu h
  exact ⟨rfl, l, rfl⟩
theorem shape61 (x : List D) (h : Shape Tryz.prog 61 x) : x.length = 2 ∧ Str2 x := by
  obtain ⟨a, l, rfl, h1, h⟩ := shapeF_cons (shape_struct Tryz.underlying61 h)
  obtain ⟨b, l, rfl, h2, h⟩ := shapeF_cons h
  obtain rfl := shapeF_nil h
  obtain ⟨a, rfl⟩ := shape_string Tryz.underlying9 h1
  obtain ⟨b, rfl⟩ := shape_string Tryz.underlying9 h2
  exact ⟨rfl, a, b, rfl⟩
theorem shape59 (x : List D) (h : Shape Tryz.prog 59 x) : x.length = 2 ∧ Str2 x := by
  obtain ⟨a, l, rfl, h1, h⟩ := shapeF_cons (shape_struct Tryz.underlying59 h)
  obtain ⟨b, l, rfl, h2, h⟩ := shapeF_cons h
  obtain rfl := shapeF_nil h
  obtain ⟨a, rfl⟩ := shape_string Tryz.underlying9 h1
  obtain ⟨b, rfl⟩ := shape_string Tryz.underlying9 h2
  exact ⟨rfl, a, b, rfl⟩
theorem shape38 (x : List D) (h : Shape Tryz.prog 38 x) : x.length = 4 ∧ GoodC x := by
  obtain ⟨a, l, rfl, h1, h⟩ := shapeF_cons (shape_struct Tryz.underlying38 h)
  obtain ⟨b, l, rfl, h2, h⟩ := shapeF_cons h
  obtain ⟨c, l, rfl, h3, h⟩ := shapeF_cons h
  obtain ⟨d, l, rfl, h4, h⟩ := shapeF_cons h
  obtain rfl := shapeF_nil h
  obtain ⟨n, rfl, n1, n2⟩ := shape_int Tryz.underlying3 h1
  obtain ⟨b, rfl, gb⟩ := good_of_shape Tryz.underlying36 (by kernel_rfl) (shape_str1 Tryz.underlying9) h2
  obtain ⟨c, rfl, gc⟩ := good_of_shape Tryz.underlying25 (by kernel_rfl) shape61 h3
  obtain ⟨d, rfl⟩ := shape_string Tryz.underlying9 h4
  exact ⟨rfl, n, b, c, d, rfl, gb, gc, n1, n2⟩
theorem shape28 (x : List D) (h : Shape Tryz.prog 28 x) : x.length = 6 ∧ GoodO x := by
  obtain ⟨a, l, rfl, h1, h⟩ := shapeF_cons (shape_struct Tryz.underlying28 h)
  obtain ⟨b, l, rfl, h2, h⟩ := shapeF_cons h
  obtain ⟨c, l, rfl, h3, h⟩ := shapeF_cons h
  obtain ⟨d, l, rfl, h4, h⟩ := shapeF_cons h
  obtain ⟨e, l, rfl, h5, h⟩ := shapeF_cons h
  obtain ⟨f, l, rfl, h6, h⟩ := shapeF_cons h
  obtain rfl := shapeF_nil h
  obtain ⟨a, rfl, _, _⟩ := shape_int Tryz.underlying23 h1
  obtain ⟨b, rfl, _, _⟩ := shape_int Tryz.underlying3 h2
  obtain ⟨c, rfl⟩ := shape_string Tryz.underlying9 h3
  obtain ⟨d, rfl, gd⟩ := good_of_shape Tryz.underlying24 (by kernel_rfl) shape59 h4
  obtain ⟨e, rfl, ge⟩ := good_of_shape Tryz.underlying25 (by kernel_rfl) shape61 h5
  obtain ⟨f, rfl, gf⟩ := good_of_shape Tryz.underlying26 (by kernel_rfl) shape38 h6
  exact ⟨rfl, a, b, c, d, e, f, rfl, gd, ge, gf⟩
theorem shape22 {x : List D} (h : Shape Tryz.prog 22 x) : ∃ d, x = [d] ∧ Good 6 GoodO d := good_of_shape Tryz.underlying22 (by kernel_rfl) shape28 h
theorem w22 {ds : List D} (h : ShapeW Tryz.prog reachBytes 22 ds) : ∃ d, ds = [d] ∧ Good 6 GoodO d := shape22 (forget h)
theorem fns_ok : kps.all (fun p => fnOk Tryz.prog p.1) = true := by kernel_rfl
noncomputable def e13 : Nat × Ext := (13, .fn (ofG (REq 2 Str2)) [])
theorem c13 : OkE Tryz.prog e13 := eq_contract (exts := []) 13 2 Str2 oks0 rfl (fun a b s K ha hb hK => eq27 _ rfl a b s ha hb K hK) Pk.any_ok Pk.types_ok fns_ok
noncomputable def e14 : Nat × Ext := (14, .fn (ofG (REq 2 Str2)) [])
theorem c14 : OkE Tryz.prog e14 := eq_contract (exts := []) 14 2 Str2 oks0 rfl (fun a b s K ha hb hK => eq28 _ rfl a b s ha hb K hK) Pk.any_ok Pk.types_ok fns_ok
noncomputable def e23 : Nat × Ext := (23, .fn (ofG (REq 1 Str1)) [])
theorem c23 : OkE Tryz.prog e23 := eq_contract (exts := []) 23 1 Str1 oks0 rfl (fun a b s K ha hb hK => eq31 _ rfl a b s ha hb K hK) Pk.any_ok Pk.types_ok fns_ok
noncomputable def e15 : Nat × Ext := (15, .fn (ofG RSameC) [])
theorem c15 : OkE Tryz.prog e15 := fn_goE (exts := [e23, e14]) Pk.any_ok Pk.types_ok fns_ok (oks1 c23 (oks1 c14 oks0)) rfl [] rfl _ (by
  rintro ps pv ⟨x, y, t, rfl, ha, hb, ht, rfl⟩
  refine call19 _ rfl rfl rfl x y _ ha hb _ fun t' s' ht' => ⟨[], ?_⟩
  have : t' = t := by rw [Bool.eq_iff_iff, ht, ht']
  rw [this]; rfl)
noncomputable def e17 : Nat × Ext := (17, .fn (ofG RAgain) [])
theorem c17 : OkE Tryz.prog e17 := fn_goE (exts := []) Pk.any_ok Pk.types_ok fns_ok oks0 rfl [] rfl _ (by
  rintro ps pv ⟨d, i, t, rfl, hd, hi, ht, rfl⟩
  refine again22 _ rfl d _ hd i hi _ fun t' s' ht' => ⟨[], ?_⟩
  have : t' = t := by rw [Bool.eq_iff_iff, ht, ht']
  rw [this]; rfl)
noncomputable def e16 : Nat × Ext := (16, .fn (ofG (RList fun l => l)) [])
theorem c16 : OkE Tryz.prog e16 := list_contract (exts := []) 16 (fun l => l) (fun l h => h) Pk.any_ok Pk.types_ok fns_ok oks0 rfl fun d s K hd hn hK => ref_all _ rfl d s hd.el hd.all hd.len hn K hK
noncomputable def e5 : Nat × Ext := (5, .fn (ofG (RList lastD)) [])
theorem c5 : OkE Tryz.prog e5 := list_contract (exts := []) 5 lastD (fun l h => lastD_good h) Pk.any_ok Pk.types_ok fns_ok oks0 rfl fun d s K hd hn hK => playCalls21 _ rfl rfl rfl rfl d s hd hn K hK
noncomputable def e9 : Nat × Ext := (9, .fn (ofG (RList lastD)) [])
theorem c9 : OkE Tryz.prog e9 := list_contract (exts := [e16, e17]) 9 lastD (fun l h => lastD_good h) Pk.any_ok Pk.types_ok fns_ok (oks1 c16 (oks1 c17 oks0)) rfl fun d s K hd hn hK => refCalls26 _ rfl rfl rfl d s hd hn K hK
noncomputable def e7 : Nat × Ext := (7, .fn (ofG (RB pOO q17)) [])
theorem c7 : OkE Tryz.prog e7 := b_contract (exts := [e13, e14, e15]) 7 pOO q17 Pk.any_ok Pk.types_ok fns_ok (oks1 c13 (oks1 c14 (oks1 c15 oks0))) rfl fun ps s K hP hK => match ps, hP, hK with
  | [.agg x, .agg y], h1, hK => refSame17 _ rfl rfl rfl rfl x y s h1.1 h1.2 K hK
noncomputable def e4 : Nat × Ext := (4, .fn (ofG RLast) [])
theorem c4 : OkE Tryz.prog e4 := last_contract (exts := []) Pk.any_ok Pk.types_ok fns_ok oks0 rfl
noncomputable def e8 : Nat × Ext := (8, .fn (ofG RCs) [])
theorem c8 : OkE Tryz.prog e8 := fn_goE (exts := [e15]) Pk.any_ok Pk.types_ok fns_ok (oks1 c15 oks0) rfl [] rfl _ (by
  rintro ps pv ⟨d, rfl, hd, rfl⟩
  exact calls8 _ rfl rfl d _ hd _ fun s' => ⟨[], rfl⟩)
noncomputable def e6 : Nat × Ext := (6, .const (.bool true) Pk.gs)
def RLaw (ps : List PW) (v : PV) : Prop := ∃ d, ps = [.c d] ∧ Good 6 GoodO d ∧ v = .w (.c (.bool true))
theorem calls_pure : PureOk Tryz.prog 3 Pk.gs (ofG RLaw) :=
  law_pure (exts := [e4, e5, e6, e7, e8, e9]) Pk.any_ok Pk.types_ok fns_ok (oks1 c4 (oks1 c5 (oks1 Pk.known_ok (oks1 c7 (oks1 c8 (oks1 c9 oks0)))))) (f := 3) rfl Pk.gs _ fun ps pv hp => by
    obtain ⟨d, rfl, hd, rfl⟩ := hp
    exact law3 _ rfl rfl rfl rfl rfl rfl rfl d _ hd (by kernel_rfl) (rows_below Pk.gs_ok) _ fun s' => ⟨[], rfl⟩
theorem calls_val {d : D} (hd : Good 6 GoodO d) : ofG RLaw [.c d] = some (.w (.c (.bool true))) :=
  ofG_eq ⟨d, rfl, hd, rfl⟩ (by rintro v' ⟨_, _, _, rfl⟩; rfl)
end Pc
