import Derived.Test.YtbfdpfcofdgckaaGreatDoorBsD
import Derived.Test.YtbfdpfcofdgckaaGreatDoorEwJ
import Derived.Test.YtbfdpfcofdgckaaGreatDoorEwG
namespace Bs
open Go Go.Proofs Ev
set_option linter.unusedVariables false
set_option linter.unusedSimpArgs false
set_option maxRecDepth 1000000
section
variable {P : Program} {B : Nat}
theorem w_str {t : TypeId} (hu : P.underlying t = some .string) {ds : List D} (h : ShapeW P B t ds) : ∃ l, ds = [.str (Str.ofL l)] ∧ l.length ≤ B := by
  cases h with
  | bool _ b h => rw [hu] at h; cases h
  | int _ k n h => rw [hu] at h; cases h
  | str _ l h h1 => exact ⟨l, rfl, h1⟩
  | nils _ e' h => rw [hu] at h; cases h
  | sl _ e' l h => rw [hu] at h; cases h
  | struct _ fs l h => rw [hu] at h; cases h
theorem w_int {t : TypeId} {k : IntKind} (hu : P.underlying t = some (.int k)) {ds : List D} (h : ShapeW P B t ds) : ∃ n, ds = [.int k n] ∧ k.min ≤ n ∧ n ≤ k.max := by
  cases h with
  | bool _ b h => rw [hu] at h; cases h
  | int _ k' n h h1 h2 => rw [hu] at h; cases h; exact ⟨n, rfl, h1, h2⟩
  | str _ l h h1 => rw [hu] at h; cases h
  | nils _ e' h => rw [hu] at h; cases h
  | sl _ e' l h => rw [hu] at h; cases h
  | struct _ fs l h => rw [hu] at h; cases h
theorem w_texts {t : TypeId} (hu : P.underlying t = some .string) : ∀ {l : List (List D)}, (∀ x ∈ l, ShapeW P B t x) → ∃ ls : List (List UInt8), l = tl (ls.map Str.ofL) ∧ ∀ z ∈ ls, z.length ≤ B := by
  intro l
  induction l with
  | nil => intro _; exact ⟨[], rfl, fun z h => by cases h⟩
  | cons x l ih =>
    intro h
    obtain ⟨z, rfl, hz⟩ := w_str hu (h x (by simp))
    obtain ⟨ls, rfl, hl⟩ := ih fun y hy => h y (by simp [hy])
    exact ⟨z :: ls, rfl, fun y hy => (List.mem_cons.1 hy).elim (fun e => e ▸ hz) (hl y)⟩
theorem w_slice {t e : TypeId} (hu : P.underlying t = some (.slice e)) {ds : List D} (h : ShapeW P B t ds) : ds = [.nils] ∨ ∃ l, ds = [.sl (P.cellsOf e) l] ∧ l.length * P.bytesOf e ≤ B ∧ ∀ x ∈ l, ShapeW P B e x := by
  cases h with
  | bool _ b h => rw [hu] at h; cases h
  | int _ k n h => rw [hu] at h; cases h
  | str _ l h => rw [hu] at h; cases h
  | nils _ e' h => exact .inl rfl
  | sl _ e' l h h1 h2 h3 => rw [hu] at h; cases h; exact .inr ⟨l, rfl, h3, h2⟩
  | struct _ fs l h => rw [hu] at h; cases h
end
/-- a row of texts -/
def Tx (d : D) : Prop := IsEls 1 d ∧ ∃ l, els d = tl l
theorem w22 {ds : List D} (h : ShapeW Tryz.prog reachBytes 22 ds) : ∃ d, ds = [d] ∧ Tx d := by
  rcases w_slice Tryz.underlying22 h with rfl | ⟨l, rfl, h1, h2⟩
  · exact ⟨_, rfl, .inl rfl, [], rfl⟩
  · obtain ⟨ls, rfl, _⟩ := w_texts Tryz.underlying9 h2
    exact ⟨_, rfl, tl_els _, _, rfl⟩
def RLaw (ps : List PW) (v : PV) : Prop := ∃ d n, ps = [.c d, .c (.int .i64 n)] ∧ Tx d ∧ v = .w (.c (.bool true))
noncomputable def e7 : Nat × Ext := (7, .const (.bool true) Bk.gs)
theorem rows_there : rowsAre (st0 Bk.gs Tryz.prog.globals.size).h.get Bk.gs = true := by kernel_rfl
theorem rows_below : ∀ p ∈ Bk.gs, p.1 < Tryz.prog.globals.size := fun p hp => by
  have := List.all_eq_true.1 Bk.gs_ok p hp
  rw [Bool.and_eq_true, decide_eq_true_eq] at this
  exact this.2
theorem shift_pure : PureOk Tryz.prog 3 Bk.gs (ofG RLaw) :=
  pure_of_run (exts := [e6, e7]) Bk.any_ok Bk.types_ok Bk.fns_ok (by
    intro q hq
    rcases List.mem_cons.1 hq with rfl | hq
    · exact c6
    · rw [List.mem_singleton] at hq; subst hq; exact Bk.known_ok) (f := 3) rfl Bk.gs _ fun ps pv hp => by
    obtain ⟨d, n, rfl, ⟨hd, l, hl⟩, rfl⟩ := ofG_some hp
    obtain ⟨v, s', ⟨N, hN⟩, bs, hz⟩ := law3 (pairT [e6, e7] .nil) rfl rfl rfl l d hd hl n (st0 Bk.gs Tryz.prog.globals.size) rows_there rows_below (fun v s' => ∃ bs, frzV s'.h.get v = some (PV.w (.c (.bool true)), bs)) fun s' => ⟨[], rfl⟩
    exact ⟨N, N, v, s', bs, hN N (N + 1) (Nat.le_refl _) (Nat.le_succ _), hz⟩
theorem shift_val {d : D} {n : Int} (hd : Tx d) : ofG RLaw [.c d, .c (.int .i64 n)] = some (.w (.c (.bool true))) :=
  ofG_eq ⟨d, n, rfl, hd, rfl⟩ (by rintro v' ⟨_, _, _, _, rfl⟩; rfl)
end Bs
