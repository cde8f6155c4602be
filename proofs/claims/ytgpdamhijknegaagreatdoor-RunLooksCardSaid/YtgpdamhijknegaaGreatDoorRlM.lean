/-
  The statement 'Rows.RunLooksSaid': for every input 'lazarus' RunLooks returns true, and what it was handed reads as before. No further condition.
  The shell is the guide's template (proof-skeleton.mjs, the worked example Mapy), turned to this function; the walk is RlK's.
-/
import Derived.Test.YtgpdamhijknegaaGreatDoorRows
import Derived.Test.YtgpdamhijknegaaGreatDoorRlL
import Derived.ChangeSame
import Derived.WalkKit
import Derived.ProofKit
import Derived.LaidMore
import Derived.OpenShut
import Derived.Stop.Joined
import Derived.Test.YtgpdamhijknegaaGreatDoorEwH
import Derived.ChangeOld
import Derived.Below
import Derived.SizedLaws
namespace Go.Proofs.YtgpdamhijknegaaGreatDoor.runLooks
open Go.ChangeShapes Go.WideShapes Go.ChangeAt Go.RowKit
set_option linter.unusedVariables false
set_option maxHeartbeats 0

theorem own : ownKnob Tryz.prog.godebug = none := by kernel_rfl

theorem laidOut : laidOutB Tryz.prog = true := by kernel_rfl
/-- what the row lists of package variables -/
abbrev laidL : List (String × DataW Unit) := Rows.runLooksRow.laid
/-- a world that meets it -/
noncomputable abbrev start (os : Os) : World := Ev.startWith Tryz.prog laidL os
theorem door_met (os : Os) (args : Array Value) : laidMetH Tryz.prog laidL ((start os).forCall (fun _ _ => 0) ⟨#[], args, []⟩).memory :=
  laidMetH_of_parts3 (fuel := 12) (Ev.laidMet_of_bits 12 1000 (by as_aux_lemma => kernel_rfl)) (by as_aux_lemma => kernel_rfl) (by as_aux_lemma => kernel_rfl)

set_option maxRecDepth 100000 in
theorem lifted (os : Os) (started : os.Started) (H : Type) (enc : TypeId × Value → H) :
    ReturnsInHanded {} Tryz.checked os 3 .any (fun w args => (Rows.runLooksSpec.pre enc Tryz.prog Tryz.f3 [] false w args ∧ laidMetH Tryz.prog laidL w) ∧ sizedMet enc Tryz.prog Tryz.f3 (OpenSpec.ofChange Rows.runLooksSpec) false w args)
      (Rows.runLooksSpec.post enc Tryz.prog Tryz.f3 false true false false) := by
  refine returnsInHanded_of_change_and (C := Tryz.checked) (X := fun w _ => laidMetH Tryz.prog laidL w) (fun _ _ _ hh h => h.of_heap hh) own started (by kernel_rfl) Tryz.func3
    (ChangeSpec.witness_shaped (enc := enc) (C := Tryz.checked) (os := os) (X := fun w _ => laidMetH Tryz.prog laidL w) false (start os) #[.slice none 0 0, .int .i64 0, .agg #[.slice none 0 0, .slice none 0 0, .slice none 0 0, .slice none 0 0, .int .i64 0, .string ByteArray.empty, .string ByteArray.empty, .int .i64 0, .int .i64 0, .string ByteArray.empty, .int .i64 0, .string ByteArray.empty, .slice none 0 0, .int .i64 0, .int .i64 0, .bool false, .bool false, .int .i64 0, .slice none 0 0, .slice none 0 0, .string ByteArray.empty], .slice none 0 0] 8 rfl (World.shaped_of_RefB (by as_aux_lemma => kernel_rfl) (by as_aux_lemma => kernel_rfl)) (by as_aux_lemma => kernel_rfl) (by as_aux_lemma => kernel_rfl) (by as_aux_lemma => kernel_rfl) (door_met os _)) ?_
  intro W base args ds gs before hval0 hW _ hsz0 hL _
  have hval : ∀ (j : Nat) t v, Tryz.f3.params[j]? = some t → args[j]? = some v → Value.okWide Tryz.prog W .any base t v := hval0
  have hW' := hW
  obtain ⟨p, q, hA0, hV, rfl, hfz, hnd⟩ := hW
  have hA : DataW.TrodAll enc Tryz.prog W 0 (fun _ => true) true Tryz.f3.params.toList args.toList ds p := hA0
  rw [Tryz.params3] at hA hval
  obtain ⟨v0, vs0, d0, ds0, p0, q0, hargs, rfl, rfl, h0, r0⟩ := trodAll_cons hA
  obtain ⟨v1, vs1, d1, ds1, p1, q1, rfl, rfl, rfl, h1, r1⟩ := trodAll_cons r0
  obtain ⟨v2, vs2, d2, ds2, p2, q2, rfl, rfl, rfl, h2, r2⟩ := trodAll_cons r1
  obtain ⟨v3, vs3, d3, ds3, p3, q3, rfl, rfl, rfl, h3, r3⟩ := trodAll_cons r2
  obtain ⟨rfl, rfl, rfl⟩ := trodAll_nil r3
  obtain rfl : args = #[v0, v1, v2, v3] := by cases args; simp_all
  obtain ⟨rfl, rfl⟩ := trodVars_none hV
  have lt0 : ∀ x ∈ p0, x.block < W.heap.size := by obtain ⟨m, hm⟩ := h0; exact DataW.trod_lt m _ _ _ hm
  have lt1 : ∀ x ∈ p1, x.block < W.heap.size := by obtain ⟨m, hm⟩ := h1; exact DataW.trod_lt m _ _ _ hm
  have lt2 : ∀ x ∈ p2, x.block < W.heap.size := by obtain ⟨m, hm⟩ := h2; exact DataW.trod_lt m _ _ _ hm
  have lt3 : ∀ x ∈ p3, x.block < W.heap.size := by obtain ⟨m, hm⟩ := h3; exact DataW.trod_lt m _ _ _ hm
  obtain ⟨ad0, n0, cap0, rfl⟩ := okWide_slice Tryz.underlying22 (hval 0 22 v0 rfl rfl)
  obtain ⟨n1, rfl⟩ := okWide_int Tryz.underlying3 (hval 1 3 v1 rfl rfl)
  obtain ⟨cs, rfl, hcs⟩ := okWide_struct Tryz.underlying37 (hval 2 37 v2 rfl rfl)
  obtain ⟨ad3, n3, cap3, rfl⟩ := okWide_slice Tryz.underlying38 (hval 3 38 v3 rfl rfl)
  obtain ⟨m0, hm0⟩ := id h0
  obtain ⟨m2, hm2⟩ := id h2
  obtain ⟨m3, hm3⟩ := id h3
  have hwt : ∀ y ∈ d2.weights Tryz.prog 37, y ≤ reachBytes := fun y hy => by
    have h := List.all_eq_true.1 hsz0 y (Ev.weightsEach_mem _ _ 2 rfl rfl hy)
    simpa using h
  obtain ⟨ds0', a0, s0, _⟩ := Ev.opens 9 22 Rl.open22 _ _ _ hm0
  obtain ⟨ds2', a2, s2, l2⟩ := Ev.opensW reachBytes 9 37 Rl.open37 _ _ _ hm2 hwt
  obtain ⟨ds3', a3, s3, _⟩ := Ev.opens 9 38 Rl.open38 _ _ _ hm3
  obtain ⟨x0, rfl, g0⟩ := Rl.shape22 s0
  obtain ⟨x3, rfl, g3⟩ := Rl.shape38 s3
  have hv : Ev.All2 (Ev.PWRel (Ev.snapAll W.heap)) [.c x0, .c (.int .i64 n1), .agg ds2', .c x3] (#[.slice ad0 n0 cap0, .int .i64 n1, .agg cs, .slice ad3 n3 cap3] : Array Value).toList :=
    .cons (by cases a0 with | cons h _ => exact h) (.cons (Ev.DRel.int .i64 n1) (.cons ⟨cs, rfl, a2⟩ (.cons (by cases a3 with | cons h _ => exact h) .nil)))
  have hlen : ds2'.length = 21 := by
    rw [l2]
    show cs.toList.length = 21
    rw [Array.length_toList, hcs]; kernel_rfl
  rw [MakeChecks.laidMetH_plain _ _ _ (by kernel_rfl)] at hL
  refine (Rl.true_of_pure_g Rk.gs_ok Rl.looks_pure (Ev.holds_of_laid hL ["unicode/utf8.first", "strings.asciiSpace", "unicode/utf8.acceptRanges", "strconv.ErrSyntax", "strconv.ErrRange"] Rk.gs (by kernel_rfl)) (Rl.looks_val g0 (Rl.w37 s2 hlen) g3) hv).mono fun e W' ⟨he, bel⟩ => ?_
  subst he
  exact ⟨_, rfl, _, _, _, [], _, [], hW', trodAll_mk1 (shut_bool Tryz.underlying4 _),
    (trodAll_cons_mk (Below.trod laidOut (by kernel_rfl) (of_decide_eq_true (by kernel_rfl)) h0 bel lt0) (trodAll_cons_mk (Below.trod laidOut (by kernel_rfl) (of_decide_eq_true (by kernel_rfl)) h1 bel lt1)
      (trodAll_cons_mk (Below.trod laidOut (by kernel_rfl) (of_decide_eq_true (by kernel_rfl)) h2 bel lt2) (trodAll_cons_mk (Below.trod laidOut (by kernel_rfl) (of_decide_eq_true (by kernel_rfl)) h3 bel lt3) trodAll_mk0)))), rfl, bel.frame _, fun h => by cases h⟩

end Go.Proofs.YtgpdamhijknegaaGreatDoor.runLooks
