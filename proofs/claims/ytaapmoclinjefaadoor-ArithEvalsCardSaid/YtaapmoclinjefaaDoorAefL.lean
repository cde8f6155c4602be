/-
  The statement 'Rows.ArithEvalsSaid': for every input 'lazarus' ArithEvals returns true, and what it was handed reads as before. No further condition.
  The shell is the guide's template (proof-skeleton.mjs, the worked example Mapy), turned to this function; the walk is ArRn's.
-/
import Derived.Test.YtaapmoclinjefaaDoorRows
import Derived.Test.YtaapmoclinjefaaDoorArV5
import Derived.Test.YtaapmoclinjefaaDoorEwJ
import Derived.Test.YtaapmoclinjefaaDoorEwJ
import Derived.ChangeSame
import Derived.WalkKit
import Derived.ProofKit
import Derived.LaidMore
import Derived.OpenShut
import Derived.Stop.Joined
import Derived.Test.YtaapmoclinjefaaDoorEwH
import Derived.ChangeOld
import Derived.Below
import Derived.SizedLaws
namespace Go.Proofs.YtaapmoclinjefaaDoor.arithEvals
open Go.ChangeShapes Go.WideShapes Go.ChangeAt Go.RowKit
set_option linter.unusedVariables false
set_option maxHeartbeats 0

theorem own : ownKnob Tryd.prog.godebug = none := by kernel_rfl

theorem laidOut : laidOutB Tryd.prog = true := by kernel_rfl
abbrev laidL : List (String × DataW Unit) := Rows.arithEvalsRow.laid
noncomputable abbrev start (os : Os) : World := Ev.startWith Tryd.prog laidL os
theorem door_met (os : Os) (args : Array Value) : laidMetH Tryd.prog laidL ((start os).forCall (fun _ _ => 0) ⟨#[], args, []⟩).memory :=
  laidMetH_of_parts3 (fuel := 12) (Ev.laidMet_of_bits 12 1000 (by as_aux_lemma => kernel_rfl)) (by as_aux_lemma => kernel_rfl) (by as_aux_lemma => kernel_rfl)

set_option maxRecDepth 100000 in
theorem lifted (os : Os) (started : os.Started) (H : Type) (enc : TypeId × Value → H) :
    ReturnsInHanded {} Tryd.checked os 3 .any (fun w args => (Rows.arithEvalsSpec.pre enc Tryd.prog Tryd.f3 [] false w args ∧ laidMetH Tryd.prog laidL w) ∧ sizedMet enc Tryd.prog Tryd.f3 (OpenSpec.ofChange Rows.arithEvalsSpec) false w args)
      (Rows.arithEvalsSpec.post enc Tryd.prog Tryd.f3 false true false false) := by
  refine returnsInHanded_of_change_and (C := Tryd.checked) (X := fun w _ => laidMetH Tryd.prog laidL w) (fun _ _ _ hh h => h.of_heap hh) own started (by kernel_rfl) Tryd.func3
    (ChangeSpec.witness_shaped (enc := enc) (C := Tryd.checked) (os := os) (X := fun w _ => laidMetH Tryd.prog laidL w) false (start os) #[.string ByteArray.empty, .slice none 0 0] 8 rfl (World.shaped_of_RefB (by as_aux_lemma => kernel_rfl) (by as_aux_lemma => kernel_rfl)) (by as_aux_lemma => kernel_rfl) (by as_aux_lemma => kernel_rfl) (by as_aux_lemma => kernel_rfl) (door_met os _)) ?_
  intro W base args ds gs before hval0 hW _ hsz0 hL _
  have hval : ∀ (j : Nat) t v, Tryd.f3.params[j]? = some t → args[j]? = some v → Value.okWide Tryd.prog W .any base t v := hval0
  have hW' := hW
  obtain ⟨p, q, hA0, hV, rfl, hfz, hnd⟩ := hW
  have hA : DataW.TrodAll enc Tryd.prog W 0 (fun _ => true) true Tryd.f3.params.toList args.toList ds p := hA0
  rw [Tryd.params3] at hA hval
  obtain ⟨v0, vs0, d0, ds0, p0, q0, hargs, rfl, rfl, h0, r0⟩ := trodAll_cons hA
  obtain ⟨v1, vs1, d1, ds1, p1, q1, rfl, rfl, rfl, h1, r1⟩ := trodAll_cons r0
  obtain ⟨rfl, rfl, rfl⟩ := trodAll_nil r1
  obtain rfl : args = #[v0, v1] := by cases args; simp_all
  obtain ⟨rfl, rfl⟩ := trodVars_none hV
  have lt0 : ∀ x ∈ p0, x.block < W.heap.size := by obtain ⟨m, hm⟩ := h0; exact DataW.trod_lt m _ _ _ hm
  have lt1 : ∀ x ∈ p1, x.block < W.heap.size := by obtain ⟨m, hm⟩ := h1; exact DataW.trod_lt m _ _ _ hm
  obtain ⟨b0, rfl⟩ := okWide_string Tryd.underlying9 (hval 0 9 v0 rfl rfl)
  obtain ⟨ad1, n1, cap1, rfl⟩ := okWide_slice Tryd.underlying22 (hval 1 22 v1 rfl rfl)
  obtain ⟨m0, hm0⟩ := id h0
  have hwt0 : ∀ y ∈ d0.weights Tryd.prog 9, y ≤ reachBytes := fun y hy => by
    have h := List.all_eq_true.1 hsz0 y (Ev.weightsEach_mem _ _ 0 rfl rfl hy)
    simpa using h
  obtain ⟨dd0, a0, s0, l0⟩ := Ev.opensW reachBytes 9 9 (by kernel_rfl) _ _ _ hm0 hwt0
  obtain ⟨x0, rfl, g0⟩ := Ar.w_str Tryd.underlying9 s0
  obtain ⟨m1, hm1⟩ := id h1
  have hwt1 : ∀ y ∈ d1.weights Tryd.prog 22, y ≤ reachBytes := fun y hy => by
    have h := List.all_eq_true.1 hsz0 y (Ev.weightsEach_mem _ _ 1 rfl rfl hy)
    simpa using h
  obtain ⟨dd1, a1, s1, l1⟩ := Ev.opensW reachBytes 9 22 (by kernel_rfl) _ _ _ hm1 hwt1
  obtain ⟨x1, rfl, g1⟩ := Ar.w22 s1
  have hv : Ev.All2 (Ev.PWRel (Ev.snapAll W.heap)) [.c (.str (Ev.Str.ofL x0)), .c x1] (#[.string b0, .slice ad1 n1 cap1] : Array Value).toList :=
    (.cons (by cases a0 with | cons h _ => exact h) (.cons (by cases a1 with | cons h _ => exact h) .nil))
  rw [MakeChecks.laidMetH_plain _ _ _ (by kernel_rfl)] at hL
  refine (Ev.true_of_pure_g Ak.gs_ok Ar.evals_pure (Ev.holds_of_laid hL ["unicode/utf8.first", "unicode/utf8.acceptRanges", "strconv.ErrSyntax", "strconv.ErrRange"] Ak.gs (by kernel_rfl)) (Ar.evals_val g1) hv).mono fun e W' ⟨he, bel⟩ => ?_
  subst he
  exact ⟨_, rfl, _, _, _, [], _, [], hW', trodAll_mk1 (shut_bool Tryd.underlying4 _),
    (trodAll_cons_mk (Below.trod laidOut (by kernel_rfl) (of_decide_eq_true (by kernel_rfl)) h0 bel lt0) (trodAll_cons_mk (Below.trod laidOut (by kernel_rfl) (of_decide_eq_true (by kernel_rfl)) h1 bel lt1) trodAll_mk0)), rfl, bel.frame _, fun h => by cases h⟩

end Go.Proofs.YtaapmoclinjefaaDoor.arithEvals
