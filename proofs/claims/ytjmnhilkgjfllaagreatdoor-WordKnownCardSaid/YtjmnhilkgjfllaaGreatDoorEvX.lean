import Derived.Test.YtjmnhilkgjfllaaGreatDoorEvW
set_option linter.unusedVariables false
set_option linter.unusedSimpArgs false
namespace Ev
open Go

section
variable {P : Program} {w : World} {E : Env} {ρ : Mp} {a : A} {s s' : St} {call : CallF} {ks nt ng : Nat} {act : Act}

/-! ### results -/
def resM (tmps : Array Value) : ResultVar → Sem Value
  | .tmp t => pure (tmps.getD t undef)
  | .cell a t => do loadVar t (← asAddr (tmps.getD a undef))
theorem resOf_ok (hE : EnvOk E P) (hi : Inv ks nt ng ρ a act s w) : ∀ (l : List ResultVar) (ws : List W), resOf E a s l = some ws →
    ∃ vs : List Value, All2 (WRel ρ) ws vs ∧ (l.mapM (resM act.tmps)).run P w = .ok vs w
  | [], ws, h => by simp only [resOf, Option.some.injEq] at h; subst h; exact ⟨[], .nil, rfl⟩
  | r :: l, ws, h => by
    simp only [resOf] at h
    cases h1 : resOne E a s r with
    | none => rw [h1] at h; cases h
    | some x =>
      rw [h1] at h
      simp only [] at h
      cases h2 : resOf E a s l with
      | none => rw [h2] at h; cases h
      | some xs =>
        rw [h2] at h
        cases h
        obtain ⟨vs, g1, g2⟩ := resOf_ok hE hi l xs h2
        have one : ∃ v, WRel ρ x v ∧ (resM act.tmps r).run P w = .ok v w := by
          cases r with
          | tmp t =>
            have : (a.get t).toW = some x := h1
            exact ⟨_, toW_rel (hi.t t) this, rfl⟩
          | cell c t =>
            simp only [resOne] at h1
            cases hp : opP a (.tmp c) with
            | none => rw [hp] at h1; cases h1
            | some bo =>
              obtain ⟨b, o⟩ := bo
              rw [hp] at h1
              simp only [] at h1
              obtain ⟨p, q1, q2⟩ := toP_rel (hi.t c) hp
              obtain ⟨v, k1, k2⟩ := run_load_var hE hi.h.sees h1 q1
              refine ⟨v, k1, ?_⟩
              simp only [resM, q2, asAddr, Sem.run_bind, Sem.run_pure, Result.andThen_ok]
              exact k2
        obtain ⟨v, k1, k2⟩ := one
        refine ⟨v :: vs, .cons k1 g1, ?_⟩
        simp only [List.mapM_cons, Sem.run_bind, k2, Result.andThen_ok, g2, Sem.run_pure]

theorem tup_ok : ∀ {ws : List W} {vs : List Value}, All2 (WRel ρ) ws vs → VRel ρ (tupOf ws) (if h : vs.toArray.size = 1 then vs.toArray[0] else .tuple vs.toArray) := by
  intro ws vs h
  cases h with
  | nil => exact ⟨#[], rfl, .nil⟩
  | cons h1 h2 =>
    cases h2 with
    | nil => exact h1
    | cons h2 h3 => exact ⟨_, by simp, .cons h1 (.cons h2 h3)⟩

theorem results_ok (hE : EnvOk E P) (hi : Inv ks nt ng ρ a act s w) {fn : Func} {ws : List W} (h : resOf E a s fn.results.toList = some ws) :
    ∃ v, VRel ρ (tupOf ws) v ∧ (results fn act.tmps).run P w = .ok v w := by
  obtain ⟨vs, h1, h2⟩ := resOf_ok (P := P) hE hi _ ws h
  refine ⟨_, tup_ok h1, ?_⟩
  show Sem.run P (do let vs ← fn.results.mapM (resM act.tmps); pure (if h : vs.size = 1 then vs[0] else .tuple vs)) w = _
  rw [Array.mapM_eq_mapM_toList]
  simp only [Sem.run_bind, map_eq_pure_bind, h2, Result.andThen_ok, Sem.run_pure]

/-! ### calls -/
structure KpsOk (E : Env) (P : Program) (ng : Nat) : Prop where
  ok : ∀ f ks fn, E.kps.get f = some ks → E.fns.get f = some fn → P.funcs[f]? = some fn ∧ (fn.name == "runtime.NumGoroutine") = false ∧ ∀ c, fn.body = some c → codeOk fn.ntmps ng c = true

theorem argsA_get : ∀ (l : List W) (i t : Nat), (argsA l i).get t = if i ≤ t ∧ t < i + l.length then .w (l.getD (t - i) (.agg [])) else .un
  | [], i, t => by rw [if_neg (by simp only [List.length_nil]; omega)]; rfl
  | x :: l, i, t => by
    show (L.cons i (.w x) (argsA l (Nat.succ i))).get t = _
    rw [L.get_cons, argsA_get l (i + 1) t]
    by_cases h : i = t
    · subst h; rw [if_pos rfl, if_pos (by simp)]; simp
    · rw [if_neg h]
      by_cases h2 : i + 1 ≤ t ∧ t < i + 1 + l.length
      · rw [if_pos h2, if_pos (by simp; omega), show t - i = (t - (i + 1)) + 1 by omega]; rfl
      · rw [if_neg h2, if_neg (by simp; omega)]

theorem tbit_eq (m d : Nat) : tbit m d = m.testBit d := by
  show Nat.beq ((m >>> d) &&& 1) 1 = _
  rw [Nat.testBit_eq_decide_div_mod_eq, Nat.and_one_is_mod, Nat.shiftRight_eq_div_pow, beq_nat]
  rfl
theorem argsKept_ok {n : Nat} (h : argsKept ks n = true) : ∀ t, t < n → tbit ks t = true := by
  intro t ht
  have h1 : ks &&& (1 <<< n - 1) = 1 <<< n - 1 := Nat.eq_of_beq_eq_true h
  rw [Nat.shiftLeft_eq, Nat.one_mul] at h1
  have h2 := congrArg (fun x => x.testBit t) h1
  simp only [Nat.testBit_and, Nat.testBit_two_pow_sub_one, ht, decide_true, Bool.and_true] at h2
  rw [tbit_eq]; exact h2

theorem runB_ok (hE : EnvOk E P) (hk : KpsOk E P ng) (hcall : CallOk P ng call) (hd : DrawOk P E ng call) {lf f : Nat} {fn : Func} (hks : E.kps.get f = some ks) (hfn : E.fns.get f = some fn) {args : List W} {v : V}
    (hr : runB E call lf ks fn args s = .ok v s') (h : HRel ρ s.h.get s.nx w.heap) (hg : GOk ng ρ) {vals : Array Value} (hv : All2 (WRel ρ) args vals.toList) :
    (callFunc f vals).run P w = .ok (.enter f vals) w ∧ Calls P f vals w (fun e w' => ∃ u, e = .returned u ∧ Done ρ s w v s' u w') := by
  obtain ⟨hP, hname, hcode⟩ := hk.ok f ks fn hks hfn
  unfold runB at hr
  cases hb : fn.body with
  | none => rw [hb] at hr; cases hr
  | some c =>
    rw [hb] at hr
    simp only [] at hr
    cases hak : argsKept ks (lenA args 0) with
    | false => rw [hak] at hr; cases hr
    | true =>
      rw [hak] at hr
      simp only [] at hr
      rw [lenA_zero] at hak
      have hkept := argsKept_ok hak
      have hlen := hv.length
      simp at hlen
      have henter : (callFunc f vals).run P w = .ok (.enter f vals) w := by
        unfold callFunc
        have hname' : ¬ fn.name = "runtime.NumGoroutine" := by simpa using hname
        simp [hP, hname', hb]
      refine ⟨henter, calls_of_wp hP hb ?_⟩
      have hinv : Inv ks fn.ntmps ng ρ (.base 0 ((argsA args 0).get 0) (argsA args 0)) { tmps := vals ++ Array.replicate (fn.ntmps - vals.size) undef, defers := [] } s w := by
        refine ⟨fun t => ?_, ⟨fun t ht => ?_, .inr rfl⟩, h, hg, by simp; omega⟩
        · rw [A.get_base]
          have : (if 0 = t then (argsA args 0).get 0 else (argsA args 0).get t) = (argsA args 0).get t := by
            by_cases e : 0 = t
            · subst e; rw [if_pos rfl]
            · rw [if_neg e]
          rw [this, argsA_get]
          by_cases ht : 0 ≤ t ∧ t < 0 + args.length
          · rw [if_pos ht]
            have hx : args[t]? = some (args.getD (t - 0) (.agg [])) := by
              rw [List.getD_eq_getElem?_getD, Nat.sub_zero, List.getElem?_eq_getElem (by omega)]; rfl
            obtain ⟨u, g1, g2⟩ := hv.get hx
            have g1' : vals[t]? = some u := by simpa using g1
            show WRel ρ _ ((vals ++ Array.replicate (fn.ntmps - vals.size) undef).getD t undef)
            rw [Array.getD_eq_getD_getElem?, Array.getElem?_append, if_pos (by omega), g1']
            exact g2
          · rw [if_neg ht]; trivial
        · rw [argsA_get, if_neg]
          rintro ⟨_, h2⟩
          rw [hkept t (by omega)] at ht
          cases ht
      cases hc : evCode E call ks lf c (.base 0 ((argsA args 0).get 0) (argsA args 0)) s with
      | bad => rw [hc] at hr; cases hr
      | ok e a1 s1 =>
        rw [hc] at hr
        have hres : e = .nm ∨ e = .ret := by cases e with | nm => exact .inl rfl | ret => exact .inr rfl | ex i => cases hr
        have hr2 : resL (resOf E a1 s1 fn.results.toList) s1 = .ok v s' := by cases e with | nm => exact hr | ret => exact hr | ex i => cases hr
        cases hws : resOf E a1 s1 fn.results.toList with
        | none => rw [hws] at hr2; cases hr2
        | some ws =>
          rw [hws] at hr2
          cases hr2
          refine code_sound hE hcall hd lf c (hcode c hb) _ _ _ _ _ e a1 _ _ hinv hc fun ρ' act' w' g => ?_
          obtain ⟨u, q1, q2⟩ := results_ok hE g.inv hws
          have : act'.defers = [] ∧ ∃ v', (results fn act'.tmps).run P w' = .ok v' w' ∧ ∃ u, (Ending.returned v') = .returned u ∧ Done ρ s w (tupOf ws) s' u w' := ⟨g.d, u, q2, u, rfl, ρ', ⟨g.post, g.sm⟩, q1⟩
          rcases hres with rfl | rfl <;> exact this

def ExtOk (P : Program) (E : Env) (ng : Nat) : Prop := ∀ f x, E.ext.get f = some x → ∀ (args : List W) (s : St) (v : V) (s' : St) (ρ : Mp) (w : World) (vals : Array Value),
  HRel ρ s.h.get s.nx w.heap → GOk ng ρ → extF x args s = .ok v s' → All2 (WRel ρ) args vals.toList →
  ((callFunc f vals).run P w = .ok (.enter f vals) w ∧ Calls P f vals w (fun e w' => ∃ u, e = .returned u ∧ Done ρ s w v s' u w')) ∨
  (∃ u w', (callFunc f vals).run P w = .ok (.value u) w' ∧ Done ρ s w v s' u w')

theorem runF_ok (hE : EnvOk E P) (hk : KpsOk E P ng) (hx : ExtOk P E ng) (hd : ∀ call, CallOk P ng call → DrawOk P E ng call) (lf : Nat) : ∀ n, CallOk P ng (runF E lf n) := by
  intro n
  induction n with
  | zero => intro f args s v s' ρ w vals _ _ h; cases h
  | succ n ih =>
    intro f args s v s' ρ w vals h hg hr hv
    have body : (@Option.rec Nat (fun _ => VS) .no (fun ks => @Option.rec Func (fun _ => VS) .no (fun fn => runB E (runF E lf n) lf ks fn args s) (E.fns.get f)) (E.kps.get f)) = .ok v s' →
        ((callFunc f vals).run P w = .ok (.enter f vals) w ∧ Calls P f vals w (fun e w' => ∃ u, e = .returned u ∧ Done ρ s w v s' u w')) ∨ (∃ u w', (callFunc f vals).run P w = .ok (.value u) w' ∧ Done ρ s w v s' u w') := by
      intro hr
      cases hks : E.kps.get f with
      | none => rw [hks] at hr; cases hr
      | some ks =>
        rw [hks] at hr
        simp only [] at hr
        cases hfn : E.fns.get f with
        | none => rw [hfn] at hr; cases hr
        | some fn =>
          rw [hfn] at hr
          exact .inl (runB_ok hE hk ih (hd _ ih) hks hfn hr h hg hv)
    replace hr : (@Option.rec Ext (fun _ => VS) (@Option.rec Nat (fun _ => VS) .no (fun ks => @Option.rec Func (fun _ => VS) .no (fun fn => runB E (runF E lf n) lf ks fn args s) (E.fns.get f)) (E.kps.get f))
      (fun x => @VS.rec (fun _ => VS) (fun v s' => .ok v s') (@Option.rec Nat (fun _ => VS) .no (fun ks => @Option.rec Func (fun _ => VS) .no (fun fn => runB E (runF E lf n) lf ks fn args s) (E.fns.get f)) (E.kps.get f)) (extF x args s)) (E.ext.get f)) = .ok v s' := hr
    cases he : E.ext.get f with
    | some x =>
      rw [he] at hr
      simp only [] at hr
      cases hxr : extF x args s with
      | ok v1 s1 =>
        rw [hxr] at hr
        cases hr
        exact hx f x he args s v s' ρ w vals h hg hxr hv
      | no =>
        rw [hxr] at hr
        exact body hr
    | none =>
      rw [he] at hr
      exact body hr

end
end Ev
