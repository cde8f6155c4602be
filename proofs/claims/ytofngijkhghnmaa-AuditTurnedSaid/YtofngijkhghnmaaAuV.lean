import Derived.Test.YtofngijkhghnmaaAuU
namespace Au
open Go Go.Proofs Ev
set_option linter.unusedVariables false
set_option linter.unusedSimpArgs false
set_option maxRecDepth 100000
mutual
theorem forget {P : Program} {B : Nat} : ∀ {t : TypeId} {ds : List D}, ShapeW P B t ds → Shape P t ds
  | _, _, .bool t b h => .bool t b h
  | _, _, .int t k n h h1 h2 => .int t k n h h1 h2
  | _, _, .str t l h _ h2 => .str t l h h2
  | _, _, .nils t e h => .nils t e h
  | _, _, .sl t e l h h1 h2 => .sl t e l h h1 fun x hx => forget (h2 x hx)
  | _, _, .struct t fs l h h1 => .struct t fs l h (forgetF h1)
theorem forgetF {P : Program} {B : Nat} : ∀ {fs : List Field} {ds : List D}, ShapeWF P B fs ds → ShapeF P fs ds
  | _, _, .nil => .nil
  | _, _, .cons f fs x l h1 h2 => .cons f fs x l (forget h1) (forgetF h2)
end
section
variable {P : Program} {B : Nat}
theorem w_slice {t e : TypeId} (hu : P.underlying t = some (.slice e)) {ds : List D} (h : ShapeW P B t ds) : ds = [.nils] ∨ ∃ l, ds = [.sl (P.cellsOf e) l] ∧ ∀ x ∈ l, ShapeW P B e x := by
  cases h with
  | bool _ b h => rw [hu] at h; cases h
  | int _ k n h => rw [hu] at h; cases h
  | str _ l h => rw [hu] at h; cases h
  | nils _ e' h => exact .inl rfl
  | sl _ e' l h h1 h2 => rw [hu] at h; cases h; exact .inr ⟨l, rfl, h2⟩
  | struct _ fs l h => rw [hu] at h; cases h
theorem w_string {t : TypeId} (hu : P.underlying t = some .string) {ds : List D} (h : ShapeW P B t ds) : ∃ l, ds = [.str (Str.ofL l)] ∧ l.length ≤ B := by
  cases h with
  | bool _ b h => rw [hu] at h; cases h
  | int _ k n h => rw [hu] at h; cases h
  | str _ l h h1 => exact ⟨l, rfl, h1⟩
  | nils _ e' h => rw [hu] at h; cases h
  | sl _ e' l h => rw [hu] at h; cases h
  | struct _ fs l h => rw [hu] at h; cases h
theorem w_struct {t : TypeId} {fs : Array Field} (hu : P.underlying t = some (.struct fs)) {ds : List D} (h : ShapeW P B t ds) : ShapeWF P B fs.toList ds := by
  cases h with
  | bool _ b h => rw [hu] at h; cases h
  | int _ k n h => rw [hu] at h; cases h
  | str _ l h => rw [hu] at h; cases h
  | nils _ e' h => rw [hu] at h; cases h
  | sl _ e' l h => rw [hu] at h; cases h
  | struct _ fs l h h1 => rw [hu] at h; cases h; exact h1
theorem w_cons {f : Field} {fs : List Field} {ds : List D} (h : ShapeWF P B (f :: fs) ds) : ∃ x l, ds = x ++ l ∧ ShapeW P B f.type x ∧ ShapeWF P B fs l := by
  cases h with
  | cons _ _ x l h1 h2 => exact ⟨x, l, rfl, h1, h2⟩
theorem w_nil {ds : List D} (h : ShapeWF P B [] ds) : ds = [] := by
  cases h; rfl
end
theorem one_of {t : TypeId} {B : Nat} {ds : List D} (h : ShapeW Try.prog B t ds) (h1 : ∀ ds, Shape Try.prog t ds → ds.length = 1) : ds.length = 1 := h1 _ (forget h)
theorem len_sl {t e : TypeId} (hu : Try.prog.underlying t = some (.slice e)) (ds : List D) (h : Shape Try.prog t ds) : ds.length = 1 := by
  rcases shape_slice hu h with rfl | ⟨l, rfl, _⟩ <;> rfl
theorem w35 {B : Nat} {x : List D} (h : ShapeW Try.prog B 35 x) {inp : List UInt8} (hi : x[3]? = some (.str (Str.ofL inp))) : inp.length ≤ B := by
  obtain ⟨a, l, rfl, h1, h⟩ := w_cons (w_struct Try.underlying35 h)
  obtain ⟨b, l, rfl, h2, h⟩ := w_cons h
  obtain ⟨c, l, rfl, h3, h⟩ := w_cons h
  obtain ⟨d, l, rfl, h4, h⟩ := w_cons h
  obtain rfl := w_nil h
  obtain ⟨n, rfl, _⟩ := shape_int Try.underlying3 (forget h1)
  obtain ⟨b, rfl⟩ : ∃ y, b = [y] := List.length_eq_one_iff.1 (len_sl Try.underlying33 _ (forget h2))
  obtain ⟨c, rfl⟩ : ∃ y, c = [y] := List.length_eq_one_iff.1 (len_sl Try.underlying24 _ (forget h3))
  obtain ⟨d, rfl, hd⟩ := w_string Try.underlying9 h4
  have hi : some (D.str (Str.ofL d)) = some (D.str (Str.ofL inp)) := hi
  have := ofL_inj (by simpa using hi)
  rw [← this]; exact hd
theorem w27 {B : Nat} {x : List D} (h : ShapeW Try.prog B 27 x) : ∀ c ∈ callsO x, ∀ inp : List UInt8, c[3]? = some (.str (Str.ofL inp)) → inp.length ≤ B := by
  obtain ⟨a, l, rfl, h1, h⟩ := w_cons (w_struct Try.underlying27 h)
  obtain ⟨b, l, rfl, h2, h⟩ := w_cons h
  obtain ⟨c, l, rfl, h3, h⟩ := w_cons h
  obtain ⟨d, l, rfl, h4, h⟩ := w_cons h
  obtain ⟨e, l, rfl, h5, h⟩ := w_cons h
  obtain ⟨f, l, rfl, h6, h⟩ := w_cons h
  obtain rfl := w_nil h
  obtain ⟨a, rfl, _⟩ := shape_int Try.underlying22 (forget h1)
  obtain ⟨b, rfl, _⟩ := shape_int Try.underlying3 (forget h2)
  obtain ⟨c, rfl⟩ := shape_string Try.underlying9 (forget h3)
  obtain ⟨d, rfl⟩ : ∃ y, d = [y] := List.length_eq_one_iff.1 (len_sl Try.underlying23 _ (forget h4))
  obtain ⟨e, rfl⟩ : ∃ y, e = [y] := List.length_eq_one_iff.1 (len_sl Try.underlying24 _ (forget h5))
  rcases w_slice Try.underlying25 h6 with rfl | ⟨l, rfl, hl⟩
  · intro c hc; simp [callsO, els] at hc
  · intro c hc inp hi
    exact w35 (hl c hc) hi
end Au
