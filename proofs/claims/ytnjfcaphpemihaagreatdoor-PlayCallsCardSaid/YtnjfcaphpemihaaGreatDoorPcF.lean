import Derived.Test.YtnjfcaphpemihaaGreatDoorPcE
import Derived.Test.YtnjfcaphpemihaaGreatDoorEwL
namespace Pc
open Go Go.Proofs Ev
set_option linter.unusedVariables false
set_option linter.unusedSimpArgs false
set_option maxRecDepth 100000
theorem st28 (X : T Ext) (s : St) (b o : Nat) (w : W) : store (En X) 28 s b o w = if w.cells.length = 6 then writeL s b o w.cells else none := store_of (tab28 X) tis28 s b o w
theorem st38 (X : T Ext) (s : St) (b o : Nat) (w : W) : store (En X) 38 s b o w = if w.cells.length = 4 then writeL s b o w.cells else none := store_of (tab38 X) tis38 s b o w
theorem putL_all {l r : List C} (h : r.length = l.length) : putL l 0 r = r := by unfold putL; simp [h]
theorem SlAt.new {s : St} {c : C} {z : Nat} {ls : List (List D)} (h : SlAt s c z ls) (b : Blk) : SlAt (s.new b) c z ls := by
  refine ⟨h.1, h.2.imp id ?_⟩
  rintro ⟨b', sh, anc, h1, h2, h3, h4⟩
  exact ⟨b', sh, anc, h1, by rw [new_old s b h4]; exact h2, h3, by rw [St.new_nx]; omega⟩
theorem SlAt.other {s s' : St} {c : C} {z : Nat} {ls : List (List D)} (h : SlAt s c z ls) (hn : s.nx ≤ s'.nx) (hk : ∀ b, b < s.nx → (∀ o n cap z', c = .sl b o n cap z' → s'.h.get b = s.h.get b)) : SlAt s' c z ls := by
  refine ⟨h.1, h.2.imp id ?_⟩
  rintro ⟨b', sh, anc, h1, h2, h3, h4⟩
  exact ⟨b', sh, anc, h1, by rw [hk b' h4 _ _ _ _ h1]; exact h2, h3, by omega⟩
theorem row_written (s : St) (zs r : List C) (h : r.length = zs.length) : ∃ s', writeL (s.new (.row (mkRow zs))) s.nx 0 r = some s' ∧ LRow s' s.nx r ∧ s'.nx = s.nx + 1 ∧ ∀ x, x < s.nx → s'.h.get x = s.h.get x := by
  obtain ⟨s', h1, h2, h3, h4⟩ := (LRow.new s zs).write (o := 0) (r := r) (by omega)
  rw [putL_all h] at h2
  exact ⟨s', h1, h2, by rw [h3, St.new_nx], fun x hx => by rw [h4 x (by omega), new_old s _ hx]⟩
end Pc
