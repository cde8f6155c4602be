import Derived.Test.YtofngijkhghnmaaAuQ
import Derived.Test.YtofngijkhghnmaaEwG
namespace Au
open Go Go.Proofs Ev
set_option linter.unusedVariables false
set_option linter.unusedSimpArgs false
set_option maxRecDepth 100000
theorem good_of_shape {t e : TypeId} {z : Nat} {p : List D → Prop} (hu : Try.prog.underlying t = some (.slice e)) (hz : Try.prog.cellsOf e = z) (hp : ∀ x, Shape Try.prog e x → x.length = z ∧ p x) {ds : List D} (h : Shape Try.prog t ds) : ∃ d, ds = [d] ∧ Good z p d := by
  rcases shape_slice hu h with rfl | ⟨l, rfl, h1, h2⟩
  · exact ⟨.nils, rfl, good_nils _ _⟩
  · subst hz
    refine ⟨_, rfl, ⟨.inr ⟨l, rfl, fun x hx => (hp x (h2 x hx)).1⟩, fun x hx => (hp x (h2 x hx)).2, h1⟩⟩
theorem shape_str1 {t : TypeId} (hu : Try.prog.underlying t = some .string) (x : List D) (h : Shape Try.prog t x) : x.length = 1 ∧ Str1 x := by
  obtain ⟨l, rfl⟩ := shape_string hu h
  exact ⟨rfl, l, rfl⟩
theorem shape55 (x : List D) (h : Shape Try.prog 55 x) : x.length = 2 ∧ Str2 x := by
  obtain ⟨a, l, rfl, h1, h⟩ := shapeF_cons (shape_struct Try.underlying55 h)
  obtain ⟨b, l, rfl, h2, h⟩ := shapeF_cons h
  obtain rfl := shapeF_nil h
  obtain ⟨a, rfl⟩ := shape_string Try.underlying9 h1
  obtain ⟨b, rfl⟩ := shape_string Try.underlying9 h2
  exact ⟨rfl, a, b, rfl⟩
theorem shape59 (x : List D) (h : Shape Try.prog 59 x) : x.length = 2 ∧ Str2 x := by
  obtain ⟨a, l, rfl, h1, h⟩ := shapeF_cons (shape_struct Try.underlying59 h)
  obtain ⟨b, l, rfl, h2, h⟩ := shapeF_cons h
  obtain rfl := shapeF_nil h
  obtain ⟨a, rfl⟩ := shape_string Try.underlying9 h1
  obtain ⟨b, rfl⟩ := shape_string Try.underlying9 h2
  exact ⟨rfl, a, b, rfl⟩
theorem shape35 (x : List D) (h : Shape Try.prog 35 x) : x.length = 4 ∧ GoodC x := by
  obtain ⟨a, l, rfl, h1, h⟩ := shapeF_cons (shape_struct Try.underlying35 h)
  obtain ⟨b, l, rfl, h2, h⟩ := shapeF_cons h
  obtain ⟨c, l, rfl, h3, h⟩ := shapeF_cons h
  obtain ⟨d, l, rfl, h4, h⟩ := shapeF_cons h
  obtain rfl := shapeF_nil h
  obtain ⟨n, rfl, n1, n2⟩ := shape_int Try.underlying3 h1
  obtain ⟨b, rfl, gb⟩ := good_of_shape Try.underlying33 (by kernel_rfl) (shape_str1 Try.underlying9) h2
  obtain ⟨c, rfl, gc⟩ := good_of_shape Try.underlying24 (by kernel_rfl) shape55 h3
  obtain ⟨d, rfl⟩ := shape_string Try.underlying9 h4
  exact ⟨rfl, n, b, c, d, rfl, gb, gc, n1, n2⟩
theorem shape27 (x : List D) (h : Shape Try.prog 27 x) : x.length = 6 ∧ GoodO x := by
  obtain ⟨a, l, rfl, h1, h⟩ := shapeF_cons (shape_struct Try.underlying27 h)
  obtain ⟨b, l, rfl, h2, h⟩ := shapeF_cons h
  obtain ⟨c, l, rfl, h3, h⟩ := shapeF_cons h
  obtain ⟨d, l, rfl, h4, h⟩ := shapeF_cons h
  obtain ⟨e, l, rfl, h5, h⟩ := shapeF_cons h
  obtain ⟨f, l, rfl, h6, h⟩ := shapeF_cons h
  obtain rfl := shapeF_nil h
  obtain ⟨a, rfl, _, _⟩ := shape_int Try.underlying22 h1
  obtain ⟨b, rfl, _, _⟩ := shape_int Try.underlying3 h2
  obtain ⟨c, rfl⟩ := shape_string Try.underlying9 h3
  obtain ⟨d, rfl, gd⟩ := good_of_shape Try.underlying23 (by kernel_rfl) shape59 h4
  obtain ⟨e, rfl, ge⟩ := good_of_shape Try.underlying24 (by kernel_rfl) shape55 h5
  obtain ⟨f, rfl, gf⟩ := good_of_shape Try.underlying25 (by kernel_rfl) shape35 h6
  exact ⟨rfl, a, b, c, d, e, f, rfl, gd, ge, gf⟩
theorem shape28 {x : List D} (h : Shape Try.prog 28 x) : ∃ d, x = [d] ∧ Good 6 GoodO d := good_of_shape Try.underlying28 (by kernel_rfl) shape27 h
theorem open27 : openable Try.prog 8 27 = true := by kernel_rfl
theorem open28 : openable Try.prog 8 28 = true := by kernel_rfl
end Au
