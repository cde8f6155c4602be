import Derived.Test.YtjmnhilkgjfllaaGreatDoorEvZd
set_option linter.unusedVariables false
set_option linter.unusedSimpArgs false
namespace Ev
open Go

theorem run_calls (P : Program) (kps : List (Nat × Nat)) (hany : P.follows .mixedOrders = true) (ht : typesOk P = true) (hk : kps.all (fun p => fnOk P p.1) = true) {lf n f : Nat} {args : List W} {s s' : St} {v : V} {ρ : Mp} {w : World} {vals : Array Value}
    (h : HRel ρ s.h.get s.nx w.heap) (hg : GOk P.globals.size ρ) (hr : runF (envOf P [] kps) lf (n + 1) f args s = .ok v s') (hv : All2 (WRel ρ) args vals.toList) :
    Calls P f vals w (fun e w' => ∃ u, e = .returned u ∧ Done ρ s w v s' u w') := by
  replace hr : (@Option.rec Nat (fun _ => VS) .no (fun ks => @Option.rec Func (fun _ => VS) .no (fun fn => runB (envOf P [] kps) (runF (envOf P [] kps) lf n) lf ks fn args s) ((envOf P [] kps).fns.get f)) ((envOf P [] kps).kps.get f)) = .ok v s' := hr
  have hE := envOf_ok P [] kps hany ht
  have hc := run_ok P kps hany ht hk lf n
  cases hks : (envOf P [] kps).kps.get f with
  | none => rw [hks] at hr; cases hr
  | some ks =>
    rw [hks] at hr
    simp only [] at hr
    cases hfn : (envOf P [] kps).fns.get f with
    | none => rw [hfn] at hr; cases hr
    | some fn =>
      rw [hfn] at hr
      exact (runB_ok hE (kps_ok P [] kps hk) hc (draw_sound hE hc) hks hfn hr h hg hv).2

/-- where nothing is known of what there is -/
def rho0 (ng : Nat) : Mp := fun g => if g < ng then some ⟨g, 0, 0, 0⟩ else none
theorem hrel0 (ng : Nat) (H : Array Obj) : HRel (rho0 ng) (St.mk .nil ng).h.get ng H where
  dom b p h := by unfold rho0 at h; split at h <;> first | assumption | cases h
  blk b x h _ := by cases h
  apart b x b' x' p p' h := by cases h
theorem gok0 (ng : Nat) : GOk ng (rho0 ng) := fun g h => ⟨⟨g, 0, 0, 0⟩, by unfold rho0; rw [if_pos h], rfl, rfl⟩

theorem kept0 {ng : Nat} {w w' : World} {v : V} {s' : St} {u : Value} (h : Done (rho0 ng) ⟨.nil, ng⟩ w v s' u w') (may : MemPlace → Prop) : w.keptBut w' may ∧ w.heap.size ≤ w'.heap.size := by
  obtain ⟨ρ', ⟨hp, hs⟩, _⟩ := h
  refine ⟨⟨hs.1, hs.2, fun i hi => ?_⟩, hp.sz⟩
  have := hp.frame i hi (fun b x p hb => by cases hb)
  rw [this]
  cases w.heap[i]? with
  | none => rfl
  | some o => cases o <;> first | rfl | exact ⟨rfl, rfl, rfl, fun _ _ => rfl⟩ | exact .inr ⟨rfl, rfl⟩

/-- a law of whole numbers and bools that is true of these -/
def isTrue (r : VS) : Bool := match r with
  | .ok (.w (.c (.bool b))) _ => b
  | _ => false
theorem isTrue_some {r : VS} (h : isTrue r = true) : ∃ s', r = .ok (.w (.c (.bool true))) s' := by
  unfold isTrue at h
  split at h
  · subst h; exact ⟨_, rfl⟩
  · cases h

theorem law_true (P : Program) (kps : List (Nat × Nat)) (hany : P.follows .mixedOrders = true) (ht : typesOk P = true) (hk : kps.all (fun p => fnOk P p.1) = true) {lf n f : Nat} {args : List W} {vals : Array Value}
    (hr : isTrue (runF (envOf P [] kps) lf (n + 1) f args ⟨.nil, P.globals.size⟩) = true) (hv : ∀ ρ, All2 (WRel ρ) args vals.toList) (w : World) :
    Calls P f vals w (fun e w' => e = .returned (.bool true) ∧ w.keptBut w' (fun _ => False) ∧ w.heap.size ≤ w'.heap.size) := by
  obtain ⟨s', hs⟩ := isTrue_some hr
  refine Calls.mono (run_calls P kps hany ht hk (hrel0 _ w.heap) (gok0 _) hs (hv _)) ?_
  rintro e w' ⟨u, rfl, hd⟩
  have hk := kept0 hd (fun _ => False)
  obtain ⟨ρ', _, hu⟩ := hd
  have : u = .bool true := hu
  subst this
  exact ⟨rfl, hk.1, hk.2⟩
end Ev
