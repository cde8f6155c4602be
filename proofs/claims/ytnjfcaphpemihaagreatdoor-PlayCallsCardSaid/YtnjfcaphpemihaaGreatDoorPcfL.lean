/-
  The statement 'Rows.PlayCallsSaid': for every input 'lazarus' PlayCalls returns true, and what it was handed reads as before. No further condition.
  The shell is the guide's template (proof-skeleton.mjs, the worked example Mapy), turned to this function; the walk is PcS's.
-/
import Derived.Test.YtnjfcaphpemihaaGreatDoorRows
import Derived.Test.YtnjfcaphpemihaaGreatDoorPcS
import Derived.Test.YtnjfcaphpemihaaGreatDoorEwJ
import Derived.Test.YtnjfcaphpemihaaGreatDoorEwJ
import Derived.ChangeSame
import Derived.WalkKit
import Derived.ProofKit
import Derived.LaidMore
import Derived.OpenShut
import Derived.Stop.Joined
import Derived.Test.YtnjfcaphpemihaaGreatDoorEwH
import Derived.ChangeOld
import Derived.Below
import Derived.SizedLaws
namespace Go.Proofs.YtnjfcaphpemihaaGreatDoor.playCalls
open Go.ChangeShapes Go.WideShapes Go.ChangeAt Go.RowKit
set_option linter.unusedVariables false
set_option maxHeartbeats 0

theorem own : ownKnob Tryz.prog.godebug = none := by kernel_rfl

theorem laidOut : laidOutB Tryz.prog = true := by kernel_rfl
abbrev laidL : List (String × DataW Unit) := Rows.playCallsRow.laid
noncomputable abbrev start (os : Os) : World := Ev.startWith Tryz.prog laidL os
theorem door_met (os : Os) (args : Array Value) : laidMetH Tryz.prog laidL ((start os).forCall (fun _ _ => 0) ⟨#[], args, []⟩).memory :=
  laidMetH_of_parts3 (fuel := 12) (Ev.laidMet_of_bits 12 1000 (by as_aux_lemma => kernel_rfl)) (by as_aux_lemma => kernel_rfl) (by as_aux_lemma => kernel_rfl)

set_option maxRecDepth 100000 in
theorem lifted (os : Os) (started : os.Started) (H : Type) (enc : TypeId × Value → H) :
    ReturnsInHanded {} Tryz.checked os 3 .any (fun w args => (Rows.playCallsSpec.pre enc Tryz.prog Tryz.f3 [] false w args ∧ laidMetH Tryz.prog laidL w) ∧ sizedMet enc Tryz.prog Tryz.f3 (OpenSpec.ofChange Rows.playCallsSpec) false w args)
      (Rows.playCallsSpec.post enc Tryz.prog Tryz.f3 false true false false) := by
  refine returnsInHanded_of_change_and (C := Tryz.checked) (X := fun w _ => laidMetH Tryz.prog laidL w) (fun _ _ _ hh h => h.of_heap hh) own started (by kernel_rfl) Tryz.func3
    (ChangeSpec.witness_shaped (enc := enc) (C := Tryz.checked) (os := os) (X := fun w _ => laidMetH Tryz.prog laidL w) false (start os) #[.slice none 0 0] 8 rfl (World.shaped_of_RefB (by as_aux_lemma => kernel_rfl) (by as_aux_lemma => kernel_rfl)) (by as_aux_lemma => kernel_rfl) (by as_aux_lemma => kernel_rfl) (by as_aux_lemma => kernel_rfl) (door_met os _)) ?_
  intro W base args ds gs before hval0 hW _ hsz0 hL _
  have hval : ∀ (j : Nat) t v, Tryz.f3.params[j]? = some t → args[j]? = some v → Value.okWide Tryz.prog W .any base t v := hval0
  have hW' := hW
  obtain ⟨p, q, hA0, hV, rfl, hfz, hnd⟩ := hW
  have hA : DataW.TrodAll enc Tryz.prog W 0 (fun _ => true) true Tryz.f3.params.toList args.toList ds p := hA0
  rw [Tryz.params3] at hA hval
  obtain ⟨v0, vs0, d0, ds0, p0, q0, hargs, rfl, rfl, h0, r0⟩ := trodAll_cons hA
  obtain ⟨rfl, rfl, rfl⟩ := trodAll_nil r0
  obtain rfl : args = #[v0] := by cases args; simp_all
  obtain ⟨rfl, rfl⟩ := trodVars_none hV
  have lt0 : ∀ x ∈ p0, x.block < W.heap.size := by obtain ⟨m, hm⟩ := h0; exact DataW.trod_lt m _ _ _ hm
  obtain ⟨ad0, n0, cap0, rfl⟩ := okWide_slice Tryz.underlying22 (hval 0 22 v0 rfl rfl)
  obtain ⟨m0, hm0⟩ := id h0
  have hwt0 : ∀ y ∈ d0.weights Tryz.prog 22, y ≤ reachBytes := fun y hy => by
    have h := List.all_eq_true.1 hsz0 y (Ev.weightsEach_mem _ _ 0 rfl rfl hy)
    simpa using h
  obtain ⟨dd0, a0, s0, l0⟩ := Ev.opensW reachBytes 9 22 (by kernel_rfl) _ _ _ hm0 hwt0
  obtain ⟨x0, rfl, g0⟩ := Pc.w22 s0
  have hv : Ev.All2 (Ev.PWRel (Ev.snapAll W.heap)) [.c x0] (#[.slice ad0 n0 cap0] : Array Value).toList :=
    (.cons (by cases a0 with | cons h _ => exact h) .nil)
  rw [MakeChecks.laidMetH_plain _ _ _ (by kernel_rfl)] at hL
  refine (Ev.true_of_pure_g Pk.gs_ok Pc.calls_pure (Ev.holds_of_laid hL ["strings.asciiSpace", "internal/strconv.uint64pow10"] Pk.gs (by kernel_rfl)) (Pc.calls_val g0) hv).mono fun e W' ⟨he, bel⟩ => ?_
  subst he
  exact ⟨_, rfl, _, _, _, [], _, [], hW', trodAll_mk1 (shut_bool Tryz.underlying4 _),
    (trodAll_cons_mk (Below.trod laidOut (by kernel_rfl) (of_decide_eq_true (by kernel_rfl)) h0 bel lt0) trodAll_mk0), rfl, bel.frame _, fun h => by cases h⟩

end Go.Proofs.YtnjfcaphpemihaaGreatDoor.playCalls
