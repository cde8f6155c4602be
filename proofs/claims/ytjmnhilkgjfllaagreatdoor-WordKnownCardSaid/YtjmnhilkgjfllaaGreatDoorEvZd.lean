import Derived.Test.YtjmnhilkgjfllaaGreatDoorEvZc
set_option linter.unusedVariables false
set_option linter.unusedSimpArgs false
namespace Ev
open Go

theorem pairT_get {α : Type} (k : Nat) : ∀ (l : List (Nat × α)) (t : T α) (x : α), (pairT l t).get k = some x → t.get k = some x ∨ (k, x) ∈ l := by
  intro l
  induction l with
  | nil => intro t x h; exact .inl h
  | cons p l ih =>
    intro t x h
    obtain ⟨i, y⟩ := p
    rcases ih (t.set i y) x h with g | g
    · rw [T.get_set] at g
      split at g
      · rename_i e; cases g; subst e; exact .inr (by simp)
      · exact .inl g
    · exact .inr (by simp [g])

theorem tabT_get (P : Program) (k : Nat) (i : TI) : ∀ (l : List TypeInfo) (n : Nat) (t : T TI), (tabT P l n t).get k = some i → t.get k = some i ∨ ∃ f d, n ≤ k ∧ l[k - n]? = some f ∧ undOf P f.desc = some d ∧ i = tiOf f d (P.stoodInHeld k) := by
  intro l
  induction l with
  | nil => intro n t h; exact .inl h
  | cons f l ih =>
    intro n t h
    have later : (∃ f' d, Nat.succ n ≤ k ∧ l[k - Nat.succ n]? = some f' ∧ undOf P f'.desc = some d ∧ i = tiOf f' d (P.stoodInHeld k)) → ∃ f' d, n ≤ k ∧ (f :: l)[k - n]? = some f' ∧ undOf P f'.desc = some d ∧ i = tiOf f' d (P.stoodInHeld k) := by
      rintro ⟨f', d, h1, h2, h3, h4⟩
      exact ⟨f', d, by omega, by rw [show k - n = (k - Nat.succ n) + 1 by omega]; exact h2, h3, h4⟩
    simp only [tabT] at h
    cases hd : undOf P f.desc with
    | none =>
      rw [hd] at h
      rcases ih _ _ h with g | g
      · exact .inl g
      · exact .inr (later g)
    | some d =>
      rw [hd] at h
      rcases ih _ _ h with g | g
      · rw [T.get_set] at g
        split at g
        · rename_i e; subst e; cases g
          exact .inr ⟨f, d, Nat.le_refl _, by simp, hd, rfl⟩
        · exact .inl g
      · exact .inr (later g)

theorem zeroOf_ok {agg : Bool} {v : Option Value} {l : List C} (h : zeroOf agg v = some l) : ∃ u, v = some u ∧ ∀ ρ : Mp, (∀ w, mkW agg l = some w → WRel ρ w u) ∧ LRel ρ l u.cells.toList := by
  unfold zeroOf at h
  cases v with
  | none => cases h
  | some u =>
    simp only [] at h
    refine ⟨u, rfl, fun ρ => ?_⟩
    have hc := conv_rel (ρ := ρ) u
    cases hv : conv u with
    | un => rw [hv] at h; cases h
    | tup _ => rw [hv] at h; cases h
    | w x =>
      rw [hv] at h hc
      cases x with
      | c x =>
        cases agg with
        | true => cases h
        | false =>
          cases h
          refine ⟨fun w hw => ?_, WRel.cells (w := .c x) hc⟩
          cases hw; exact hc
      | agg r =>
        cases agg with
        | false => cases h
        | true =>
          cases h
          refine ⟨fun w hw => ?_, WRel.cells (w := .agg l) hc⟩
          cases hw; exact hc

/-- what is checked of the types once: what is compared as it lies is comparable -/
def typesOk (P : Program) : Bool := P.types.toList.all fun f => match undOf P f.desc with
  | none => true
  | some d => or (!plainD d) f.comparable

theorem info_of {P : Program} {t : TypeId} {f : TypeInfo} (h : P.types[t]? = some f) : P.info? t = some f := by
  unfold Tables.info?
  rw [if_pos (Array.getElem?_eq_some_iff.1 h).1, h]
theorem und_eq {P : Program} {t : TypeId} {f : TypeInfo} {d : TypeDesc} (hf : P.info? t = some f) (hd : undOf P f.desc = some d) : P.underlying t = some d := by
  unfold Program.underlying
  rw [hf]
  obtain ⟨desc, _⟩ := f
  cases desc <;> simp only [undOf] at hd ⊢ <;> try (exact hd)
  rename_i n u
  cases hu : P.types[u]? with
  | none => rw [hu] at hd; cases hd
  | some j => rw [hu] at hd; rw [info_of hu]; exact hd

theorem envOf_ok (P : Program) (exts : List (Nat × Ext)) (kps : List (Nat × Nat)) (hany : P.follows .mixedOrders = true) (ht : typesOk P = true) : EnvOk (envOf P exts kps) P where
  any := hany
  tabz t i z hi hz := by
    have hi : (tabT P P.types.toList 0 .nil).get t = some i := hi
    rcases tabT_get P t i _ _ _ hi with g | ⟨f, d, _, _, _, rfl⟩
    · cases g
    · have : zeroIn f.size (zeroOf (isAggT d) f.zero) = some z := hz
      unfold zeroIn at this
      cases h : zeroOf (isAggT d) f.zero with
      | none => rw [h] at this; cases this
      | some l =>
        rw [h] at this
        simp only [] at this
        cases hb : Nat.beq (lenA l 0) f.size with
        | false => rw [hb] at this; cases this
        | true =>
          rw [hb] at this; cases this
          have := Nat.eq_of_beq_eq_true hb
          rw [lenA_zero] at this; exact this
  tab t i hi := by
    have hi : (tabT P P.types.toList 0 .nil).get t = some i := hi
    rcases tabT_get P t i _ _ _ hi with g | ⟨f, d, _, hf, hd, rfl⟩
    · cases g
    · have hf' : P.info? t = some f := info_of (by simpa using hf)
      refine ⟨f, hf', rfl, rfl, und_eq hf' hd, rfl, fun hp => ?_, fun z hz => ?_⟩
      · have h1 := (List.all_eq_true.1 ht) f (List.mem_of_getElem? hf)
        rw [hd] at h1
        have hp' : plainD d = true := hp
        simpa [hp'] using h1
      · have : zeroIn f.size (zeroOf (isAggT d) f.zero) = some z := hz
        unfold zeroIn at this
        cases h : zeroOf (isAggT d) f.zero with
        | none => rw [h] at this; cases this
        | some l =>
          rw [h] at this
          simp only [] at this
          cases hb : Nat.beq (lenA l 0) f.size with
          | false => rw [hb] at this; cases this
          | true => rw [hb] at this; cases this; exact zeroOf_ok h

/-- what is checked of the functions once -/
def fnOk (P : Program) (f : Nat) : Bool := match P.funcs[f]? with
  | none => true
  | some fn => and (!(fn.name == "runtime.NumGoroutine")) (match fn.body with
    | none => true
    | some c => codeOk fn.ntmps P.globals.size c)
theorem kps_ok (P : Program) (exts : List (Nat × Ext)) (kps : List (Nat × Nat)) (h : kps.all (fun p => fnOk P p.1) = true) : KpsOk (envOf P exts kps) P P.globals.size where
  ok f ks fn hk hf := by
    have hk : (pairT kps .nil).get f = some ks := hk
    have hf : (T.ofL P.funcs.toList).get f = some fn := hf
    rw [T.get_ofL] at hf
    have hP : P.funcs[f]? = some fn := by simpa using hf
    rcases pairT_get f _ _ _ hk with g | g
    · cases g
    · have := (List.all_eq_true.1 h) _ g
      unfold fnOk at this
      simp only [hP, Bool.and_eq_true, Bool.not_eq_true'] at this
      refine ⟨hP, this.1, fun c hc => ?_⟩
      have h2 := this.2
      rw [hc] at h2
      exact h2

/-- THE EVALUATOR IS RIGHT, where no prim is used -/
theorem run_ok (P : Program) (kps : List (Nat × Nat)) (hany : P.follows .mixedOrders = true) (ht : typesOk P = true) (hk : kps.all (fun p => fnOk P p.1) = true) (lf n : Nat) :
    CallOk P P.globals.size (runF (envOf P [] kps) lf n) :=
  runF_ok (envOf_ok P [] kps hany ht) (kps_ok P [] kps hk) (fun f x h => by cases h) (fun call hc => draw_sound (envOf_ok P [] kps hany ht) hc) lf n

end Ev
