import Derived.Test.YtkmffdoaahiopaaGreatDoorBnJ
import Derived.Test.YtkmffdoaahiopaaGreatDoorEwJ
import Derived.Test.YtkmffdoaahiopaaGreatDoorEwJ
namespace Bn
open Go Go.Proofs Ev
set_option linter.unusedVariables false
set_option linter.unusedSimpArgs false
set_option maxRecDepth 1000000
def RNot (ps : List PW) (v : PV) : Prop := ∃ d : D, ps = [.c d] ∧ (d = .nils ∨ ∃ ls, d = .sl 1 (tx ls) ∧ ∀ l ∈ ls, Txt l) ∧ v = .w (.c (.bool true))
noncomputable def e5 : Nat × Ext := (5, .const (.bool true) Bk.gs)
theorem c5 : Ok e5 := Bk.known_ok
theorem oks3 : Oks [t4, e5] := ok1 d4 (ok1 c5 ok0)
theorem rows_below : ∀ p ∈ Bk.gs, p.1 < Tryz.prog.globals.size := fun p hp => by
  have := List.all_eq_true.1 Bk.gs_ok p hp
  rw [Bool.and_eq_true, decide_eq_true_eq] at this
  exact this.2
theorem not_pure : PureOk Tryz.prog 3 Bk.gs (ofG RNot) :=
  pure_of_run any_ok types_ok fns_ok oks3 (f := 3) rfl Bk.gs _ fun ps pv hp => by
    obtain ⟨d, rfl, hd, rfl⟩ := ofG_some hp
    obtain ⟨v, s', ⟨N, hN⟩, bs, hz⟩ := not3 (pairT [t4, e5] .nil) rfl rfl rfl d hd (st0 Bk.gs Tryz.prog.globals.size) gsC_C rows_below (fun v s' => ∃ bs, frzV s'.h.get v = some (PV.w (.c (.bool true)), bs)) fun s' => ⟨[], rfl⟩
    exact ⟨N, N, v, s', bs, hN N (N + 1) (Nat.le_refl _) (Nat.le_succ _), hz⟩
theorem not_val {d : D} (hd : d = .nils ∨ ∃ ls, d = .sl 1 (tx ls) ∧ ∀ l ∈ ls, Txt l) : ofG RNot [.c d] = some (.w (.c (.bool true))) :=
  ofG_eq ⟨d, rfl, hd, rfl⟩ (by rintro v' ⟨_, _, _, rfl⟩; rfl)
theorem w_str {t : TypeId} {B : Nat} (hu : Tryz.prog.underlying t = some .string) {ds : List D} (h : ShapeW Tryz.prog B t ds) : ∃ l, ds = [.str (Str.ofL l)] ∧ l.length ≤ B := by
  cases h with
  | bool _ b h => rw [hu] at h; cases h
  | int _ k n h => rw [hu] at h; cases h
  | str _ l h h1 => exact ⟨l, rfl, h1⟩
  | nils _ e' h => rw [hu] at h; cases h
  | sl _ e' l h => rw [hu] at h; cases h
  | struct _ fs l h => rw [hu] at h; cases h
theorem texts {B : Nat} : ∀ {l : List (List D)}, (∀ x ∈ l, ShapeW Tryz.prog B 9 x) → ∃ ls, l = tx ls ∧ ∀ z ∈ ls, z.length ≤ B := by
  intro l
  induction l with
  | nil => intro _; exact ⟨[], rfl, fun z h => by cases h⟩
  | cons x l ih =>
    intro h
    obtain ⟨z, rfl, hz⟩ := w_str Tryz.underlying9 (h x (by simp))
    obtain ⟨ls, rfl, hl⟩ := ih fun y hy => h y (by simp [hy])
    exact ⟨z :: ls, rfl, fun y hy => (List.mem_cons.1 hy).elim (fun e => e ▸ hz) (hl y)⟩
theorem w22 {ds : List D} (h : ShapeW Tryz.prog reachBytes 22 ds) : ∃ d, ds = [d] ∧ (d = .nils ∨ ∃ ls, d = .sl 1 (tx ls) ∧ ∀ l ∈ ls, Txt l) := by
  have hu := Tryz.underlying22
  cases h with
  | bool _ b h => rw [hu] at h; cases h
  | int _ k n h => rw [hu] at h; cases h
  | str _ l h h1 => rw [hu] at h; cases h
  | nils _ e' h => exact ⟨_, rfl, .inl rfl⟩
  | sl _ e' l h h1 h2 h3 =>
    rw [hu] at h; cases h
    obtain ⟨ls, rfl, hl⟩ := texts h2
    exact ⟨_, rfl, .inr ⟨ls, rfl, fun z hz => hl z hz⟩⟩
  | struct _ fs l h => rw [hu] at h; cases h
theorem open22 : openable Tryz.prog 9 22 = true := by kernel_rfl
end Bn
