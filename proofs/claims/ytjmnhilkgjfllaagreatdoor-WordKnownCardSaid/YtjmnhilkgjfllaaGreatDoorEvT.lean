import Derived.Test.YtjmnhilkgjfllaaGreatDoorEvS
set_option linter.unusedVariables false
set_option linter.unusedSimpArgs false
namespace Ev
open Go

section
variable {P : Program} {w : World} {E : Env} {ρ : Mp} {a : A} {s s' : St} {call : CallF} {ng : Nat}

def Done (ρ : Mp) (s : St) (w : World) (v : V) (s' : St) (u : Value) (w' : World) : Prop := ∃ ρ', (Post ρ s w.heap ρ' s' w'.heap ∧ Same w w') ∧ VRel ρ' v u

/-- the package-level variables are where they always are -/
def GOk (ng : Nat) (ρ : Mp) : Prop := ∀ g, g < ng → ∃ p, ρ g = some p ∧ p.c = g ∧ p.o = 0
/-- a call's own evaluator is right -/
def CallOk (P : Program) (ng : Nat) (call : CallF) : Prop := ∀ (f : Nat) (args : List W) (s : St) (v : V) (s' : St) (ρ : Mp) (w : World) (vals : Array Value),
  HRel ρ s.h.get s.nx w.heap → GOk ng ρ → call f args s = .ok v s' → All2 (WRel ρ) args vals.toList →
  ((callFunc f vals).run P w = .ok (.enter f vals) w ∧ Calls P f vals w (fun e w' => ∃ u, e = .returned u ∧ Done ρ s w v s' u w')) ∨
  (∃ u w', (callFunc f vals).run P w = .ok (.value u) w' ∧ Done ρ s w v s' u w')

theorem args_ok {e : Operand → Value} : ∀ (l : List Operand) (r : List W), (∀ x ∈ l, OpRel ρ a e x) → argsOf a l = some r → All2 (WRel ρ) r (l.map e)
  | [], r, _, h => by simp only [argsOf, Option.some.injEq] at h; subst h; exact .nil
  | x :: l, r, ho, h => by
    simp only [argsOf] at h
    cases h1 : opW a x with
    | none => rw [h1] at h; cases h
    | some y =>
      rw [h1] at h
      simp only [] at h
      cases h2 : argsOf a l with
      | none => rw [h2] at h; cases h
      | some r' =>
        rw [h2] at h
        cases h
        exact .cons (toW_rel (ho x (by simp)) h1) (args_ok l r' (fun y hy => ho y (by simp [hy])) h2)

theorem capW_ok : ∀ {l : List (Nat × Nat)} {vs : List Value}, All2 (PtrRel ρ) l vs → All2 (WRel ρ) (capW l) vs := by
  intro l vs h
  induction h with
  | nil => exact .nil
  | cons h1 _ ih => rename_i x _ _ _ _; obtain ⟨b, o⟩ := x; exact .cons h1 ih

theorem upon_value {o : Oper} {act : Act} {K : Act → World → Prop} {Q : Exit → Act → World → Prop} {u : Value} {w' : World} (h : (execOp act.eval o).run P w = .ok (.value u) w') (hK : K (act.put o.dst u) w') : o.wp P act w K Q := by
  unfold Oper.wp; rw [h]; exact hK
theorem upon_skip {o : Oper} {act : Act} {K : Act → World → Prop} {Q : Exit → Act → World → Prop} {w' : World} (h : (execOp act.eval o).run P w = .ok .skip w') (hK : K (act.put o.dst undef) w') : o.wp P act w K Q := by
  unfold Oper.wp; rw [h]; exact hK

theorem opB_a {b : Builtin} {ts : Array Nat} {args : List Operand} {f : Env → CallF → A → St → VS} (h : opB b ts args = .a f) :
    (∃ x y, args = [x, y] ∧ b = .append ∧ f = fun E _ a s => aAppend E a ts x y s) ∨ (∃ x y, args = [x, y] ∧ b = .copy ∧ f = fun E _ a s => aCopy E a ts x y s) := by
  unfold opB at h
  split at h
  · split at h <;> cases h
  · split at h <;> first | (cases h; done) | (cases h; exact .inl ⟨_, _, rfl, rfl, rfl⟩) | (cases h; exact .inr ⟨_, _, rfl, rfl, rfl⟩)
  · cases h

theorem a_sound (hE : EnvOk E P) (hcall : CallOk P ng call) (h : HRel ρ s.h.get s.nx w.heap) (hg : GOk ng ρ) (o : Oper) {act : Act} (ho : ∀ x ∈ o.op.operands, OpRel ρ a act.eval x)
    {f : Env → CallF → A → St → VS} (hk : kOf E (opK o.op) = .a f) {v : V} (hf : f E call a s = .ok v s')
    {K : Act → World → Prop} {Q : Exit → Act → World → Prop} (hK : ∀ u w', Done ρ s w v s' u w' → K (act.put o.dst u) w') : o.wp P act w K Q := by
  obtain ⟨dst, op, type, pos, after, guard⟩ := o
  simp only at ho hk hK
  have unit : ∀ {sm : Sem Unit} {w' : World}, sm.run P w = .ok () w' → (do sm; pure Next.skip : Sem Next).run P w = .ok .skip w' := by
    intro sm w' hs
    simp only [Sem.run_bind, hs, Result.andThen_ok, Sem.run_pure]
  cases op <;> simp only [opK, kOf] at hk <;> try (cases hk; done)
  case store t x y =>
    cases hk
    obtain ⟨rfl, w', q1, q2⟩ := store_ok (P := P) hE h (ho x (by simp [Op.operands])) (ho y (by simp [Op.operands])) hf
    exact upon_skip (unit q1) (hK _ _ ⟨ρ, q2, trivial⟩)
  case mapUpdate t m k x =>
    cases hk
    obtain ⟨rfl, w', q1, q2⟩ := map_ok (P := P) hE h (ho m (by simp [Op.operands])) (ho k (by simp [Op.operands])) (ho x (by simp [Op.operands])) hf
    exact upon_skip (unit q1) (hK _ _ ⟨ρ, q2, trivial⟩)
  case insert t m k x =>
    cases hk
    obtain ⟨rfl, w', q1, q2⟩ := map_ok (P := P) hE h (ho m (by simp [Op.operands])) (ho k (by simp [Op.operands])) (ho x (by simp [Op.operands])) hf
    exact upon_skip (unit q1) (hK _ _ ⟨ρ, q2, trivial⟩)
  case next x b =>
    cases hk
    obtain ⟨u, w', q1, q2, q3⟩ := next_ok (P := P) (ty := type) h (ho x (by simp [Op.operands])) hf
    exact upon_value (bi2 q1) (hK _ _ ⟨ρ, q2, q3⟩)
  case makeMap t r => cases r <;> simp only [opK, kOf] at hk <;> cases hk
  case convert s d x => cases hn : isNew E d <;> rw [hn] at hk <;> cases hk
  case call c =>
    have hk' : opCall c = .a f := by
      cases hc : opCall c <;> rw [hc] at hk <;> simp only [kOf] at hk <;> try (cases hk; done)
      · cases hk; rfl
      · exfalso
        unfold opCall opB at hc
        repeat' split at hc <;> try (cases hc; done)
    have hop : ∀ x ∈ c.args.toList, OpRel ρ a act.eval x := fun x hx => ho x (by simp [Op.operands, Call.operands]; exact .inr (by simpa using hx))
    unfold opCall at hk'
    cases hc : c.callee with
    | invoke r m => rw [hc] at hk'; cases hk'
    | builtin b =>
      rw [hc] at hk'
      simp only [] at hk'
      have hrun : ∀ {u : Value} {w' : World} {sm : Sem Value}, (∀ k, builtin b c.argTypes type k (c.args.map act.eval) = (do pure (Next.value (← sm)))) → sm.run P w = .ok u w' → (execOp act.eval ⟨dst, .call c, type, pos, after, guard⟩).run P w = .ok (.value u) w' := by
        intro u w' sm hb hs
        unfold execOp
        simp only [Sem.run_bind, resolve, hc, Sem.run_pure, Result.andThen_ok, invoke, hb, hs]
      rcases opB_a hk' with ⟨x, y, ha, rfl, rfl⟩ | ⟨x, y, ha, rfl, rfl⟩
      · have ha' := arr2 ha
        obtain ⟨u, w', ρ', q1, q2, q3⟩ := append_ok (P := P) (ts := c.argTypes) (ty := type) hE h (hop x (by rw [ha]; simp)) (hop y (by rw [ha]; simp)) hf
        exact upon_value (hrun (fun k => rfl) (by rw [ha']; simpa using q1)) (hK _ _ ⟨ρ', q2, q3⟩)
      · have ha' := arr2 ha
        obtain ⟨u, w', q1, q2, q3⟩ := copy_ok (P := P) (ts := c.argTypes) (ty := type) hE h (hop x (by rw [ha]; simp)) (hop y (by rw [ha]; simp)) hf
        exact upon_value (hrun (fun k => rfl) (by rw [ha']; simpa using q1)) (hK _ _ ⟨ρ, q2, q3⟩)
    | value fo =>
      rw [hc] at hk'
      cases hk'
      replace hf : aFun call a fo c.args.toList s = .ok v s' := hf
      unfold aFun at hf
      cases h1 : opC a fo with
      | none => rw [h1] at hf; cases hf
      | some cf =>
        rw [h1] at hf
        cases cf <;> (try simp only [] at hf) <;> try (cases hf; done)
        rename_i fi cap
        cases h2 : argsOf a c.args.toList with
        | none => rw [h2] at hf; cases hf
        | some args =>
          rw [h2] at hf
          simp only [] at hf
          obtain ⟨vs, ef, hcap⟩ := toC_rel (ho fo (by simp [Op.operands, Call.operands, hc])) h1
          have hargs := args_ok c.args.toList args hop h2
          have hall : All2 (WRel ρ) (args ++ capW cap) (c.args.map act.eval ++ vs).toList := by
            simpa using All2.append hargs (capW_ok hcap)
          have hrun : (execOp act.eval ⟨dst, .call c, type, pos, after, guard⟩).run P w = (callFunc fi (c.args.map act.eval ++ vs)).run P w := by
            unfold execOp
            simp [Sem.run_bind, resolve, hc, Deferred.ofValue, ef, invoke]
          rcases hcall fi _ s v s' ρ w _ h hg hf hall with ⟨q1, q2⟩ | ⟨u, w', q1, q2⟩
          · unfold Oper.wp
            rw [hrun, q1]
            refine Calls.mono q2 ?_
            rintro e w' ⟨u, rfl, hd⟩
            exact hK u w' hd
          · exact upon_value (hrun.trans q1) (hK _ _ q2)

/-- an operation in the order of the text -/
theorem op_sound (hE : EnvOk E P) (hcall : CallOk P ng call) (h : HRel ρ s.h.get s.nx w.heap) (hg : GOk ng ρ) (o : Oper) {act : Act} (ho : ∀ x ∈ o.op.operands, OpRel ρ a act.eval x)
    {v : V} (hf : evOp E call o.op a s = .ok v s')
    {K : Act → World → Prop} {Q : Exit → Act → World → Prop} (hK : ∀ u w', Done ρ s w v s' u w' → K (act.put o.dst u) w') : o.wp P act w K Q := by
  have rr : ∀ {rd : Bool} {f : Env → A → Look → Option V}, kOf E (opK o.op) = .r rd f → okR (f E a s.h.get) s = .ok v s' → o.wp P act w K Q := by
    intro rd f hk hr
    cases hv : f E a s.h.get with
    | none => rw [hv] at hr; cases hr
    | some v' =>
      rw [hv] at hr
      cases hr
      obtain ⟨u, q1, q2⟩ := r_sound hE h.sees o ho hk hv
      exact upon_value q1 (hK u w ⟨ρ, ⟨Post.refl h, Same.refl w⟩, q2⟩)
  have nn : ∀ {f : Env → A → Nat → Option (V × Blk)}, kOf E (opK o.op) = .n f → okN (f E a s.nx) s = .ok v s' → o.wp P act w K Q := by
    intro f hk hr
    cases hv : f E a s.nx with
    | none => rw [hv] at hr; cases hr
    | some vb =>
      obtain ⟨v', b⟩ := vb
      rw [hv] at hr
      cases hr
      obtain ⟨u, w', p, ob, q1, q2, q3, q4, q5⟩ := n_sound (P := P) (w := w) hE o ho hk hv
      refine upon_value q1 (hK u w' ⟨_, ⟨?_, q2.2⟩, q5⟩)
      rw [q2.1]
      exact Post.new h b ob p q3 q4
  unfold evOp evK at hf
  cases hk : opK o.op with
  | r rd f => rw [hk] at hf; exact rr (by rw [hk]; rfl) hf
  | n f => rw [hk] at hf; exact nn (by rw [hk]; rfl) hf
  | a f => rw [hk] at hf; exact a_sound hE hcall h hg o ho (by rw [hk]; rfl) hf hK
  | cv sr d x =>
    rw [hk] at hf
    simp only [] at hf
    cases hn : isNew E d with
    | true => rw [hn] at hf; exact nn (f := fun E a id => nConv E a sr d x id) (by rw [hk]; simp only [kOf, hn]) hf
    | false => rw [hn] at hf; exact rr (rd := true) (f := fun E a look => rConvert E look a sr d x) (by rw [hk]; simp only [kOf, hn]) hf
  | no => rw [hk] at hf; cases hf

end
end Ev
