import Derived.Test.YtnjfcaphpemihaaGreatDoorEwC
import Derived.LoopN
import Derived.Scope
import Derived.Orders
import Derived.OrdersIn
import Derived.TacticsIn
import Derived.LoopNIn
import Derived.RangeFuncSeq
import Derived.RangeFuncIn
import Derived.RangeFuncRecord
import Derived.RangeFuncLeaves
set_option linter.unusedVariables false
set_option linter.unusedSimpArgs false
namespace Ev
open Go

section
variable {P : Program} {w : World} {E : Env} {ρ : Mp} {a : A} {s s' : St} {call : CallF} {ng : Nat}

def Done (ρ : Mp) (s : St) (w : World) (v : V) (s' : St) (u : Value) (w' : World) : Prop := ∃ ρ', (Post ρ s w.heap ρ' s' w'.heap ∧ Same w w') ∧ VRel ρ' v u

def GOk (ng : Nat) (ρ : Mp) : Prop := ∀ g, g < ng → ∃ p, ρ g = some p ∧ p.c = g ∧ p.o = 0
def CallOk (P : Program) (ng : Nat) (call : CallF) : Prop := ∀ (f : Nat) (args : List W) (s : St) (v : V) (s' : St) (ρ : Mp) (w : World) (vals : Array Value),
  HRel ρ s.h.get s.nx w.heap → GOk ng ρ → call f args s = .ok v s' → All2 (WRel ρ) args vals.toList →
  ((callFunc f vals).run P w = .ok (.enter f vals) w ∧ Calls P f vals w (fun e w' => ∃ u, e = .returned u ∧ Done ρ s w v s' u w')) ∨
  (∃ u w', (callFunc f vals).run P w = .ok (.value u) w' ∧ Done ρ s w v s' u w')

theorem args_ok {e : Operand → Value} : ∀ (l : List Operand) (r : List W), (∀ x ∈ l, OpRel ρ a e x) → argsOf a l = some r → All2 (WRel ρ) r (l.map e)
  | [], r, _, h => by simp only [argsOf, Option.some.injEq] at h; subst h; exact .nil
  | x :: l, r, ho, h => by
    simp only [argsOf] at h
    cases h1 : opW a x with
    | none => rw [h1] at h; cases h
    | some y =>
      rw [h1] at h
      simp only [] at h
      cases h2 : argsOf a l with
      | none => rw [h2] at h; cases h
      | some r' =>
        rw [h2] at h
        cases h
        exact .cons (toW_rel (ho x (by simp)) h1) (args_ok l r' (fun y hy => ho y (by simp [hy])) h2)

theorem capW_ok : ∀ {l : List (Nat × Nat)} {vs : List Value}, All2 (PtrRel ρ) l vs → All2 (WRel ρ) (capW l) vs := by
  intro l vs h
  induction h with
  | nil => exact .nil
  | cons h1 _ ih => rename_i x _ _ _ _; obtain ⟨b, o⟩ := x; exact .cons h1 ih

theorem upon_value {o : Oper} {act : Act} {K : Act → World → Prop} {Q : Exit → Act → World → Prop} {u : Value} {w' : World} (h : (execOp act.eval o).run P w = .ok (.value u) w') (hK : K (act.put o.dst u) w') : o.wp P act w K Q := by
  unfold Oper.wp; rw [h]; exact hK
theorem upon_skip {o : Oper} {act : Act} {K : Act → World → Prop} {Q : Exit → Act → World → Prop} {w' : World} (h : (execOp act.eval o).run P w = .ok .skip w') (hK : K (act.put o.dst undef) w') : o.wp P act w K Q := by
  unfold Oper.wp; rw [h]; exact hK

theorem opB_a {b : Builtin} {ts : Array Nat} {args : List Operand} {f : Env → CallF → A → St → VS} (h : opB b ts args = .a f) :
    (∃ x y, args = [x, y] ∧ b = .append ∧ f = fun E _ a s => aAppend E a ts x y s) ∨ (∃ x y, args = [x, y] ∧ b = .copy ∧ f = fun E _ a s => aCopy E a ts x y s) := by
  unfold opB at h
  split at h
  · split at h <;> cases h
  · split at h <;> first | (cases h; done) | (cases h; exact .inl ⟨_, _, rfl, rfl, rfl⟩) | (cases h; exact .inr ⟨_, _, rfl, rfl, rfl⟩)
  · cases h

theorem a_sound (hE : EnvOk E P) (hcall : CallOk P ng call) (h : HRel ρ s.h.get s.nx w.heap) (hg : GOk ng ρ) (o : Oper) {act : Act} (ho : ∀ x ∈ o.op.operands, OpRel ρ a act.eval x)
    {f : Env → CallF → A → St → VS} (hk : kOf E (opK o.op) = .a f) {v : V} (hf : f E call a s = .ok v s')
    {K : Act → World → Prop} {Q : Exit → Act → World → Prop} (hK : ∀ u w', Done ρ s w v s' u w' → K (act.put o.dst u) w') : o.wp P act w K Q := by
  obtain ⟨dst, op, type, pos, after, guard⟩ := o
  simp only at ho hk hK
  have unit : ∀ {sm : Sem Unit} {w' : World}, sm.run P w = .ok () w' → (do sm; pure Next.skip : Sem Next).run P w = .ok .skip w' := by
    intro sm w' hs
    simp only [Sem.run_bind, hs, Result.andThen_ok, Sem.run_pure]
  cases op <;> simp only [opK, kOf] at hk <;> try (cases hk; done)
  case store t x y =>
    cases hk
    obtain ⟨rfl, w', q1, q2⟩ := store_ok (P := P) hE h (ho x (by simp [Op.operands])) (ho y (by simp [Op.operands])) hf
    exact upon_skip (unit q1) (hK _ _ ⟨ρ, q2, trivial⟩)
  case mapUpdate t m k x =>
    cases hk
    obtain ⟨rfl, w', q1, q2⟩ := map_ok (P := P) hE h (ho m (by simp [Op.operands])) (ho k (by simp [Op.operands])) (ho x (by simp [Op.operands])) hf
    exact upon_skip (unit q1) (hK _ _ ⟨ρ, q2, trivial⟩)
  case insert t m k x =>
    cases hk
    obtain ⟨rfl, w', q1, q2⟩ := map_ok (P := P) hE h (ho m (by simp [Op.operands])) (ho k (by simp [Op.operands])) (ho x (by simp [Op.operands])) hf
    exact upon_skip (unit q1) (hK _ _ ⟨ρ, q2, trivial⟩)
  case next x b =>
    cases hk
    obtain ⟨u, w', q1, q2, q3⟩ := next_ok (P := P) (ty := type) h (ho x (by simp [Op.operands])) hf
    exact upon_value (bi2 q1) (hK _ _ ⟨ρ, q2, q3⟩)
  case makeMap t r => cases r <;> simp only [opK, kOf] at hk <;> cases hk
  case convert s d x => cases hn : isNew E d <;> rw [hn] at hk <;> cases hk
  case call c =>
    have hk' : opCall c = .a f := by
      cases hc : opCall c <;> rw [hc] at hk <;> simp only [kOf] at hk <;> try (cases hk; done)
      · cases hk; rfl
      · exfalso
        unfold opCall opB at hc
        repeat' split at hc <;> try (cases hc; done)
    have hop : ∀ x ∈ c.args.toList, OpRel ρ a act.eval x := fun x hx => ho x (by simp [Op.operands, Call.operands]; exact .inr (by simpa using hx))
    unfold opCall at hk'
    cases hc : c.callee with
    | invoke r m => rw [hc] at hk'; cases hk'
    | builtin b =>
      rw [hc] at hk'
      simp only [] at hk'
      have hrun : ∀ {u : Value} {w' : World} {sm : Sem Value}, (∀ k, builtin b c.argTypes type k (c.args.map act.eval) = (do pure (Next.value (← sm)))) → sm.run P w = .ok u w' → (execOp act.eval ⟨dst, .call c, type, pos, after, guard⟩).run P w = .ok (.value u) w' := by
        intro u w' sm hb hs
        unfold execOp
        simp only [Sem.run_bind, resolve, hc, Sem.run_pure, Result.andThen_ok, invoke, hb, hs]
      rcases opB_a hk' with ⟨x, y, ha, rfl, rfl⟩ | ⟨x, y, ha, rfl, rfl⟩
      · have ha' := arr2 ha
        obtain ⟨u, w', ρ', q1, q2, q3⟩ := append_ok (P := P) (ts := c.argTypes) (ty := type) hE h (hop x (by rw [ha]; simp)) (hop y (by rw [ha]; simp)) hf
        exact upon_value (hrun (fun k => rfl) (by rw [ha']; simpa using q1)) (hK _ _ ⟨ρ', q2, q3⟩)
      · have ha' := arr2 ha
        obtain ⟨u, w', q1, q2, q3⟩ := copy_ok (P := P) (ts := c.argTypes) (ty := type) hE h (hop x (by rw [ha]; simp)) (hop y (by rw [ha]; simp)) hf
        exact upon_value (hrun (fun k => rfl) (by rw [ha']; simpa using q1)) (hK _ _ ⟨ρ, q2, q3⟩)
    | value fo =>
      rw [hc] at hk'
      cases hk'
      replace hf : aFun call a fo c.args.toList s = .ok v s' := hf
      unfold aFun at hf
      cases h1 : opC a fo with
      | none => rw [h1] at hf; cases hf
      | some cf =>
        rw [h1] at hf
        cases cf <;> (try simp only [] at hf) <;> try (cases hf; done)
        rename_i fi cap
        cases h2 : argsOf a c.args.toList with
        | none => rw [h2] at hf; cases hf
        | some args =>
          rw [h2] at hf
          simp only [] at hf
          obtain ⟨vs, ef, hcap⟩ := toC_rel (ho fo (by simp [Op.operands, Call.operands, hc])) h1
          have hargs := args_ok c.args.toList args hop h2
          have hall : All2 (WRel ρ) (args ++ capW cap) (c.args.map act.eval ++ vs).toList := by
            simpa using All2.append hargs (capW_ok hcap)
          have hrun : (execOp act.eval ⟨dst, .call c, type, pos, after, guard⟩).run P w = (callFunc fi (c.args.map act.eval ++ vs)).run P w := by
            unfold execOp
            simp [Sem.run_bind, resolve, hc, Deferred.ofValue, ef, invoke]
          rcases hcall fi _ s v s' ρ w _ h hg hf hall with ⟨q1, q2⟩ | ⟨u, w', q1, q2⟩
          · unfold Oper.wp
            rw [hrun, q1]
            refine Calls.mono q2 ?_
            rintro e w' ⟨u, rfl, hd⟩
            exact hK u w' hd
          · exact upon_value (hrun.trans q1) (hK _ _ q2)

theorem op_sound (hE : EnvOk E P) (hcall : CallOk P ng call) (h : HRel ρ s.h.get s.nx w.heap) (hg : GOk ng ρ) (o : Oper) {act : Act} (ho : ∀ x ∈ o.op.operands, OpRel ρ a act.eval x)
    {v : V} (hf : evOp E call o.op a s = .ok v s')
    {K : Act → World → Prop} {Q : Exit → Act → World → Prop} (hK : ∀ u w', Done ρ s w v s' u w' → K (act.put o.dst u) w') : o.wp P act w K Q := by
  have rr : ∀ {rd : Bool} {f : Env → A → Look → Option V}, kOf E (opK o.op) = .r rd f → okR (f E a s.h.get) s = .ok v s' → o.wp P act w K Q := by
    intro rd f hk hr
    cases hv : f E a s.h.get with
    | none => rw [hv] at hr; cases hr
    | some v' =>
      rw [hv] at hr
      cases hr
      obtain ⟨u, q1, q2⟩ := r_sound hE h.sees o ho hk hv
      exact upon_value q1 (hK u w ⟨ρ, ⟨Post.refl h, Same.refl w⟩, q2⟩)
  have nn : ∀ {f : Env → A → Nat → Option (V × Blk)}, kOf E (opK o.op) = .n f → okN (f E a s.nx) s = .ok v s' → o.wp P act w K Q := by
    intro f hk hr
    cases hv : f E a s.nx with
    | none => rw [hv] at hr; cases hr
    | some vb =>
      obtain ⟨v', b⟩ := vb
      rw [hv] at hr
      cases hr
      obtain ⟨u, w', p, ob, q1, q2, q3, q4, q5⟩ := n_sound (P := P) (w := w) hE o ho hk hv
      refine upon_value q1 (hK u w' ⟨_, ⟨?_, q2.2⟩, q5⟩)
      rw [q2.1]
      exact Post.new h b ob p q3 q4
  unfold evOp evK at hf
  cases hk : opK o.op with
  | r rd f => rw [hk] at hf; exact rr (by rw [hk]; rfl) hf
  | n f => rw [hk] at hf; exact nn (by rw [hk]; rfl) hf
  | a f => rw [hk] at hf; exact a_sound hE hcall h hg o ho (by rw [hk]; rfl) hf hK
  | cv sr d x =>
    rw [hk] at hf
    simp only [] at hf
    cases hn : isNew E d with
    | true => rw [hn] at hf; exact nn (f := fun E a id => nConv E a sr d x id) (by rw [hk]; simp only [kOf, hn]) hf
    | false => rw [hn] at hf; exact rr (rd := true) (f := fun E a look => rConvert E look a sr d x) (by rw [hk]; simp only [kOf, hn]) hf
  | no => rw [hk] at hf; cases hf

end
end Ev

set_option linter.unusedVariables false
set_option linter.unusedSimpArgs false
namespace Ev
open Go

theorem convC0_rel {ρ : Mp} {v : Value} {c : C} (h : convC0 v = some c) : CRel ρ c v := by
  unfold convC0 at h
  split at h <;> try (cases h; done)
  all_goals try (cases h; first | rfl | exact ⟨_, rfl, rfl⟩)
  rename_i f a b
  cases ha : a.toList with
  | cons _ _ => rw [ha] at h; cases h
  | nil =>
    rw [ha] at h
    cases hb : b.toList with
    | cons _ _ => rw [hb] at h; cases h
    | nil =>
      rw [hb] at h
      cases h
      have ea : a = #[] := by cases a; simp at ha; rw [ha]
      have eb : b = #[] := by cases b; simp at hb; rw [hb]
      subst ea eb
      exact ⟨#[], rfl, .nil⟩
theorem convC_rel {ρ : Mp} {v : Value} {c : C} (h : convC v = some c) : CRel ρ c v := by
  unfold convC at h
  split at h
  · rename_i t v
    cases h1 : convC0 v with
    | none => rw [h1] at h; cases h
    | some c' => rw [h1] at h; cases h; exact ⟨v, rfl, convC0_rel h1⟩
  · exact convC0_rel h
theorem convL_rel {ρ : Mp} : ∀ {l : List Value} {r : List C}, convL l = some r → LRel ρ r l
  | [], r, h => by simp only [convL, Option.some.injEq] at h; subst h; exact .nil
  | v :: l, r, h => by
    simp only [convL] at h
    cases h1 : convC v with
    | none => rw [h1] at h; cases h
    | some c =>
      rw [h1] at h
      simp only [] at h
      cases h2 : convL l with
      | none => rw [h2] at h; cases h
      | some cs => rw [h2] at h; cases h; exact .cons (convC_rel h1) (convL_rel h2)
theorem conv_rel {ρ : Mp} (v : Value) : VRel ρ (conv v) v := by
  unfold conv
  split
  · rename_i cs
    cases h : convL cs.toList with
    | none => trivial
    | some l => exact ⟨cs, rfl, convL_rel h⟩
  · trivial
  · cases h : convC v with
    | none => trivial
    | some c => exact convC_rel h

theorem L.get_nil (t : Nat) : L.nil.get t = .un := rfl
theorem L.get_cons (d : Nat) (v : V) (l : L) (t : Nat) : (L.cons d v l).get t = if d = t then v else l.get t := by
  show @Bool.rec (fun _ => V) (l.get t) v (Nat.beq d t) = _
  by_cases h : d = t
  · subst h; simp
  · rw [if_neg h]
    have : Nat.beq d t = false := by cases hb : Nat.beq d t with | false => rfl | true => exact absurd (Nat.eq_of_beq_eq_true hb) h
    rw [this]
theorem L.get_set (l : L) (d : Nat) (v : V) (t : Nat) : (l.set d v).get t = if d = t then v else l.get t := by
  induction l with
  | nil => show (L.cons d v .nil).get t = _; rw [L.get_cons]
  | cons e u l ih =>
    show (@Bool.rec (fun _ => L) (L.cons e u (l.set d v)) (.cons d v l) (Nat.beq e d)).get t = _
    by_cases h : e = d
    · subst h
      simp only [Nat.beq_eq_true_eq, Nat.beq_refl]
      rw [L.get_cons, L.get_cons]; split <;> rfl
    · have : Nat.beq e d = false := by cases hb : Nat.beq e d with | false => rfl | true => exact absurd (Nat.eq_of_beq_eq_true hb) h
      rw [this]
      show (L.cons e u (l.set d v)).get t = _
      rw [L.get_cons, L.get_cons, ih]
      by_cases h1 : e = t
      · rw [if_pos h1, if_pos h1, if_neg (by omega)]
      · rw [if_neg h1, if_neg h1]
theorem A.get_base (d : Nat) (v : V) (l : L) (t : Nat) : (A.base d v l).get t = if d = t then v else l.get t := L.get_cons d v l t
theorem A.get_put (d : Nat) (v : V) (k : Bool) (a : A) (t : Nat) : (A.put d v k a).get t = if d = t then v else a.get t := by
  show @Bool.rec (fun _ => V) (a.get t) v (Nat.beq d t) = _
  by_cases h : d = t
  · subst h; simp
  · rw [if_neg h]
    have : Nat.beq d t = false := by cases hb : Nat.beq d t with | false => rfl | true => exact absurd (Nat.eq_of_beq_eq_true hb) h
    rw [this]

def Wf (ks : Nat) : A → Prop
  | .base d v l => (∀ t, tbit ks t = false → l.get t = .un) ∧ (l.get d = .un ∨ l.get d = v)
  | .put d _ k a => k = tbit ks d ∧ Wf ks a
theorem keep_ok {ks : Nat} : ∀ {a : A}, Wf ks a → (∀ t, tbit ks t = false → a.keep.get t = .un) ∧ (∀ t, a.keep.get t = .un ∨ a.keep.get t = a.get t)
  | .base d v l, h => by
    refine ⟨h.1, fun t => ?_⟩
    show l.get t = .un ∨ l.get t = _
    rw [A.get_base]
    by_cases e : d = t
    · subst e; rw [if_pos rfl]; exact h.2
    · rw [if_neg e]; exact .inr rfl
  | .put d v k a, h => by
    obtain ⟨rfl, h⟩ := h
    obtain ⟨h1, h2⟩ := keep_ok h
    have hk : (A.put d v (tbit ks d) a).keep = if tbit ks d then a.keep.set d v else a.keep := by
      show @Bool.rec (fun _ => L) a.keep (a.keep.set d v) (tbit ks d) = _
      cases tbit ks d <;> rfl
    rw [hk]
    cases hb : tbit ks d with
    | true =>
      simp only [if_true, L.get_set, A.get_put]
      refine ⟨fun t ht => ?_, fun t => ?_⟩
      · rw [if_neg (by intro e; subst e; rw [hb] at ht; cases ht)]; exact h1 t ht
      · by_cases e : d = t
        · rw [if_pos e, if_pos e]; exact .inr rfl
        · rw [if_neg e, if_neg e]; exact h2 t
    | false =>
      simp only [Bool.false_eq_true, if_false, A.get_put]
      refine ⟨h1, fun t => ?_⟩
      by_cases e : d = t
      · subst e; exact .inl (h1 d hb)
      · rw [if_neg e]; exact h2 t
theorem flush_ok {ks : Nat} {a : A} (h : Wf ks a) : Wf ks a.flush ∧ ∀ t, a.flush.get t = .un ∨ a.flush.get t = a.get t := by
  cases a with
  | base d v l => exact ⟨h, fun t => .inr rfl⟩
  | put d v k a =>
    have hk := keep_ok h
    have hf : (A.put d v k a).flush = .base d v (A.put d v k a).keep := rfl
    rw [hf]
    refine ⟨⟨hk.1, ?_⟩, fun t => ?_⟩
    · rcases hk.2 d with g | g
      · exact .inl g
      · right; rw [g, A.get_put, if_pos rfl]
    · rw [A.get_base]
      by_cases e : d = t
      · subst e; rw [if_pos rfl, A.get_put, if_pos rfl]; exact .inr rfl
      · rw [if_neg e]; exact hk.2 t

section
variable {P : Program} {w : World} {E : Env} {ρ : Mp} {a : A} {s s' : St} {call : CallF} {ks nt ng : Nat} {act : Act}

def TRel (ρ : Mp) (a : A) (act : Act) : Prop := ∀ t, VRel ρ (a.get t) (act.tmps.getD t undef)
def opndOk (ng : Nat) (x : Operand) : Bool := match x with
  | .global g => Nat.ble (Nat.succ g) ng
  | _ => true

theorem opRel {x : Operand} (ht : TRel ρ a act) (hg : GOk ng ρ) (hx : opndOk ng x = true) : OpRel ρ a act.eval x := by
  cases x with
  | tmp t => exact ht t
  | const v => exact conv_rel v
  | global g =>
    obtain ⟨p, h1, h2, h3⟩ := hg g (Nat.le_of_ble_eq_true hx)
    refine ⟨p, h1, ?_⟩
    show Value.pointer (some ⟨g, 0, none⟩) = .pointer (some ⟨p.c, p.o + 0, none⟩)
    rw [h2, h3]
  | func f => exact ⟨#[], rfl, .nil⟩

theorem TRel.mono {ρ' : Mp} (h : ρ.le ρ') (ht : TRel ρ a act) : TRel ρ' a act := fun t => (ht t).mono h
theorem TRel.put (ht : TRel ρ a act) {d : Option Nat} {v : V} {u : Value} (hv : VRel ρ v u) (hd : ∀ x, d = some x → x < act.tmps.size) : TRel ρ (putA ks a d v) (act.put d u) := by
  cases d with
  | none => exact ht
  | some d =>
    intro t
    show VRel ρ ((A.put d v (tbit ks d) a).get t) ((act.tmps.setIfInBounds d u).getD t undef)
    rw [A.get_put]
    by_cases e : d = t
    · subst e
      have := hd d rfl
      simp [this]; exact hv
    · rw [if_neg e]
      have : (act.tmps.setIfInBounds d u).getD t undef = act.tmps.getD t undef := by
        simp [Array.getD_eq_getD_getElem?, Array.getElem?_setIfInBounds_ne e]
      rw [this]; exact ht t
theorem Wf.put (h : Wf ks a) (d : Option Nat) (v : V) : Wf ks (putA ks a d v) := by
  cases d with
  | none => exact h
  | some d => exact ⟨rfl, h⟩
theorem put_size (d : Option Nat) (u : Value) : (act.put d u).tmps.size = act.tmps.size := by cases d <;> simp [Act.put]
theorem put_defers (d : Option Nat) (u : Value) : (act.put d u).defers = act.defers := by cases d <;> rfl

structure Inv (ks nt ng : Nat) (ρ : Mp) (a : A) (act : Act) (s : St) (w : World) : Prop where
  t : TRel ρ a act
  wf : Wf ks a
  h : HRel ρ s.h.get s.nx w.heap
  g : GOk ng ρ
  sz : nt ≤ act.tmps.size
def otherO : Obj → Bool
  | .cells _ _ _ => false
  | .map _ _ => false
  | .stringIter _ _ => false
  | _ => true
theorem blk_not_other {ρ : Mp} {p : Place} {x : Blk} {o : Obj} (h : BlkRel ρ p x o) (ha : alive x = true) : otherO o = false := by
  cases x with
  | row r => obtain ⟨arr, e, fz, rfl, _⟩ := h; rfl
  | map es => obtain ⟨arr, clk, rfl, _⟩ := h; rfl
  | iter s i => obtain ⟨bs, rfl, _⟩ := h; rfl
  | dead => cases ha
theorem wr_alive' {x : Blk} (h : wr x = true) : alive x = true := by cases x <;> first | rfl | cases h
theorem HRel.not_other {ρ : Mp} {look : Look} {nx : Nat} {H : Array Obj} (h : HRel ρ look nx H) {D : Nat} {o : Obj} (hD : H[D]? = some o) (ho : otherO o = true) : ∀ b x p, look b = some x → alive x = true → ρ b = some p → p.c ≠ D := by
  intro b x p hx ha hp e
  obtain ⟨q, o', g1, g2, g3⟩ := h.blk b x hx ha
  rw [hp] at g1; cases g1
  rw [e, hD] at g2; cases g2
  rw [blk_not_other g3 ha] at ho; cases ho
theorem Post.other {ρ ρ' : Mp} {s s' : St} {H H' : Array Obj} (hp : Post ρ s H ρ' s' H') (h : HRel ρ s.h.get s.nx H) {D : Nat} {o : Obj} (hD : H[D]? = some o) (ho : otherO o = true) : H'[D]? = some o := by
  rw [hp.frame D (Array.getElem?_eq_some_iff.1 hD).1 (fun b x p hx hw hp' => h.not_other hD ho b x p hx (wr_alive' hw) hp')]
  exact hD
def mkMark (D : Nat) : Deferred := { target := .collected D, args := #[] }
def Marks (B : Nat) (w : World) (ds base : List Deferred) : Prop := ∃ l : List Nat, ds = l.map mkMark ++ base ∧ l.Nodup ∧ ∀ D ∈ l, B ≤ D ∧ w.heap[D]? = some (.deferred (some []))
theorem Marks.refl (B : Nat) (w : World) (ds : List Deferred) : Marks B w ds ds := ⟨[], rfl, .nil, fun d h => by cases h⟩
theorem Marks.of_eq {B : Nat} {w : World} {ds base : List Deferred} (h : ds = base) : Marks B w ds base := h ▸ Marks.refl B w ds
theorem Marks.trans {B : Nat} {w1 w2 : World} {d2 d1 d0 : List Deferred} {ρ ρ' : Mp} {s s' : St} (h1 : Marks B w1 d1 d0) (h : HRel ρ s.h.get s.nx w1.heap) (hp : Post ρ s w1.heap ρ' s' w2.heap) (h2 : Marks w1.heap.size w2 d2 d1) (hB : B ≤ w1.heap.size) : Marks B w2 d2 d0 := by
  obtain ⟨l2, rfl, n2, k2⟩ := h2
  obtain ⟨l1, rfl, n1, k1⟩ := h1
  refine ⟨l2 ++ l1, by simp, List.nodup_append.2 ⟨n2, n1, fun a ha b hb e => ?_⟩, fun D hD => ?_⟩
  · subst e
    have := (k2 a ha).1
    have := (Array.getElem?_eq_some_iff.1 (k1 a hb).2).1
    omega
  · rcases List.mem_append.1 hD with g | g
    · exact ⟨Nat.le_trans hB (k2 D g).1, (k2 D g).2⟩
    · exact ⟨(k1 D g).1, hp.other h (k1 D g).2 rfl⟩
theorem HRel.setOther {ρ : Mp} {look : Look} {nx : Nat} {H : Array Obj} (h : HRel ρ look nx H) {D : Nat} {o : Obj} (hD : H[D]? = some o) (ho : otherO o = true) (o' : Obj) : HRel ρ look nx (H.setIfInBounds D o') where
  lies c i v hm := by
    obtain ⟨arr, e, fz, g1, g2⟩ := h.lies c i v hm
    refine ⟨arr, e, fz, ?_, g2⟩
    rw [Array.getElem?_setIfInBounds]
    split
    · rename_i e; subst e; rw [hD] at g1; cases g1; cases ho
    · exact g1
  away := h.away
  dom := h.dom
  blk b x hx ha := by
    obtain ⟨p, o1, g1, g2, g3⟩ := h.blk b x hx ha
    refine ⟨p, o1, g1, ?_, g3⟩
    rw [Array.getElem?_setIfInBounds, if_neg (fun e => h.not_other hD ho b x p hx ha g1 e.symm)]
    exact g2
  apart := h.apart
theorem Post.setOther {ρ ρ' : Mp} {s s' : St} {H H' : Array Obj} (hp : Post ρ s H ρ' s' H') {D : Nat} {o : Obj} (hB : H.size ≤ D) (hD : H'[D]? = some o) (ho : otherO o = true) (o' : Obj) : Post ρ s H ρ' s' (H'.setIfInBounds D o') where
  m := hp.m
  mn := hp.mn
  ext := hp.ext
  nx := hp.nx
  rel := hp.rel.setOther hD ho o'
  sz := by simpa using hp.sz
  frame c hc hn := by rw [Array.getElem?_setIfInBounds, if_neg (by omega)]; exact hp.frame c hc hn
  wrs := hp.wrs
  alv := hp.alv
theorem HRel.pushOther {ρ : Mp} {look : Look} {nx : Nat} {H : Array Obj} (h : HRel ρ look nx H) (o : Obj) : HRel ρ look nx (H.push o) where
  lies := h.lies.push o
  away := h.away
  dom := h.dom
  blk b x hx ha := by
    obtain ⟨p, o1, g1, g2, g3⟩ := h.blk b x hx ha
    refine ⟨p, o1, g1, ?_, g3⟩
    rw [Array.getElem?_push, if_neg (by have := (Array.getElem?_eq_some_iff.1 g2).1; omega)]
    exact g2
  apart := h.apart
theorem Post.pushOther {ρ ρ' : Mp} {s s' : St} {H H' : Array Obj} (hp : Post ρ s H ρ' s' H') (o : Obj) : Post ρ s H ρ' s' (H'.push o) where
  m := hp.m
  mn := hp.mn
  ext := hp.ext
  nx := hp.nx
  rel := hp.rel.pushOther o
  sz := by have := hp.sz; simp; omega
  frame c hc hn := by rw [Array.getElem?_push, if_neg (by have := hp.sz; omega)]; exact hp.frame c hc hn
  wrs := hp.wrs
  alv := hp.alv
structure Goes (ks nt ng : Nat) (ρ : Mp) (s : St) (w : World) (act : Act) (ρ' : Mp) (a' : A) (s' : St) (act' : Act) (w' : World) : Prop where
  post : Post ρ s w.heap ρ' s' w'.heap
  inv : Inv ks nt ng ρ' a' act' s' w'
  d : Marks w.heap.size w' act'.defers act.defers
  sm : Same w w'

theorem GOk.post {ρ' : Mp} {H' : Array Obj} (hg : GOk ng ρ) (h : HRel ρ s.h.get s.nx w.heap) (hp : Post ρ s w.heap ρ' s' H') : GOk ng ρ' := fun g hn => by
  obtain ⟨p, h1, h2⟩ := hg g hn
  exact ⟨p, by rw [hp.ext g (h.dom g p h1)]; exact h1, h2⟩
theorem Goes.refl (h : Inv ks nt ng ρ a act s w) : Goes ks nt ng ρ s w act ρ a s act w := ⟨Post.refl h.h, h, Marks.refl _ _ _, Same.refl _⟩
theorem Goes.trans {ρ1 ρ2 : Mp} {a1 a2 : A} {s1 s2 : St} {act1 act2 : Act} {w1 w2 : World} (h1 : Goes ks nt ng ρ s w act ρ1 a1 s1 act1 w1) (h2 : Goes ks nt ng ρ1 s1 w1 act1 ρ2 a2 s2 act2 w2) :
    Goes ks nt ng ρ s w act ρ2 a2 s2 act2 w2 := ⟨h1.post.trans h2.post, h2.inv, h1.d.trans h1.inv.h h2.post h2.d h1.post.sz, h1.sm.trans h2.sm⟩

def operOk (nt ng : Nat) (o : Oper) : Bool := and (match o.dst with
  | none => true
  | some d => Nat.ble (Nat.succ d) nt) (o.op.operands.toList.all (opndOk ng))

theorem Inv.step (h : Inv ks nt ng ρ a act s w) {o : Oper} (ho : operOk nt ng o = true) {v : V} {s' : St} {u : Value} {w' : World} (hd : Done ρ s w v s' u w') :
    ∃ ρ', Goes ks nt ng ρ s w act ρ' (putA ks a o.dst v) s' (act.put o.dst u) w' := by
  obtain ⟨ρ', ⟨hp, hsm⟩, hv⟩ := hd
  unfold operOk at ho
  rw [Bool.and_eq_true] at ho
  refine ⟨ρ', hp, ⟨(h.t.mono (hp.le h.h)).put hv ?_, h.wf.put _ _, hp.rel, h.g.post h.h hp, by rw [put_size]; exact h.sz⟩, Marks.of_eq (put_defers _ _), hsm⟩
  intro x hx
  have h1 := ho.1
  rw [hx] at h1
  have : x + 1 ≤ nt := Nat.le_of_ble_eq_true h1
  have := h.sz
  omega

theorem Inv.skip (h : Inv ks nt ng ρ a act s w) {o : Oper} (ho : operOk nt ng o = true) : Goes ks nt ng ρ s w act ρ (putA ks a o.dst skipV) s (act.put o.dst undef) w := by
  unfold operOk at ho
  rw [Bool.and_eq_true] at ho
  refine ⟨Post.refl h.h, ⟨h.t.put ⟨#[], rfl, .nil⟩ ?_, h.wf.put _ _, h.h, h.g, by rw [put_size]; exact h.sz⟩, Marks.of_eq (put_defers _ _), Same.refl _⟩
  intro x hx
  have h1 := ho.1
  rw [hx] at h1
  have : x + 1 ≤ nt := Nat.le_of_ble_eq_true h1
  have := h.sz
  omega

theorem operands_ok {o : Oper} (h : Inv ks nt ng ρ a act s w) (ho : operOk nt ng o = true) : ∀ x ∈ o.op.operands, OpRel ρ a act.eval x := by
  intro x hx
  unfold operOk at ho
  rw [Bool.and_eq_true, List.all_eq_true] at ho
  exact opRel h.t h.g (ho.2 x (by simpa using hx))

def ofB (u : Value) : Option Bool := match u with | .bool x => some x | _ => none
theorem boolIs_ok {v : V} {u : Value} {b c : Bool} (hv : VRel ρ v u) (h : boolIs v b = some c) : (ofB u == some b) = c := by
  unfold boolIs at h
  split at h
  · cases h
  · cases h
  · rename_i x
    cases h
    have : u = .bool x := hv
    subst this; cases x <;> cases b <;> rfl
  · rename_i h1 h0 h2
    cases h
    have : ∀ x, u ≠ .bool x := by
      intro x hu
      subst hu
      cases v with
      | un => exact h1 rfl
      | tup l => obtain ⟨_, h3, _⟩ := hv; cases h3
      | w y =>
        cases y with
        | agg l => obtain ⟨_, h3, _⟩ := hv; cases h3
        | c y =>
          cases y <;> simp only [VRel, WRel, CRel, PtrRel] at hv
          all_goals first
            | (exact h2 _ rfl)
            | (exact h0 rfl)
            | (cases hv; done)
            | (obtain ⟨_, h3, _⟩ := hv; cases h3; done)
            | (obtain ⟨_, _, h3⟩ := hv; cases h3; done)
            | (obtain ⟨_, _, _, _, h3, _⟩ := hv; cases h3; done)
    cases u <;> first | rfl | exact absurd rfl (this _)

theorem wanted_ok (ht : TRel ρ a act) {ops : List Oper} {o : Oper} {b : Bool} (h : wantedG a ops o.guard = some b) : Region.wanted o (yielded ops.toArray act.tmps) = b := by
  unfold Region.wanted
  cases hg : o.guard with
  | none => rw [hg] at h; cases h; rfl
  | some g =>
    obtain ⟨j, want⟩ := g
    rw [hg] at h
    replace h : guardOk a ops j want = some b := h
    unfold guardOk at h
    simp only [yielded, List.getElem?_toArray]
    cases hj : ops[j]? with
    | none => rw [hj] at h; cases h; cases want <;> rfl
    | some p =>
      rw [hj] at h
      simp only [Option.bind_some] at h ⊢
      cases hd : p.dst with
      | none => rw [hd] at h; cases h; cases want <;> rfl
      | some d =>
        rw [hd] at h
        simp only [Option.bind_some] at h ⊢
        have hv := ht d
        rw [Array.getD_eq_getD_getElem?] at hv
        have key := boolIs_ok hv h
        cases hx : act.tmps[d]? with
        | none => rw [hx] at key; exact key
        | some u =>
          rw [hx] at key
          simp only [Option.getD_some] at key
          rw [← key]
          cases u <;> rfl

theorem evOps_sound (hE : EnvOk E P) (hcall : CallOk P ng call) {ops : List Oper} {Q : Exit → Act → World → Prop} {a' : A} {s' : St} : ∀ (l : List Oper) (a : A) (s : St) (act : Act) (w : World) (ρ : Mp),
    (∀ o ∈ l, operOk nt ng o = true) → Inv ks nt ng ρ a act s w → evOps E call ks ops l a s = .ok a' s' →
    (∀ ρ' act' w', Goes ks nt ng ρ s w act ρ' a' s' act' w' → Q .normal act' w') → wpList P ops.toArray Q l act w := by
  intro l
  induction l with
  | nil => intro a s act w ρ _ hi h hQ; cases h; exact hQ _ _ _ (Goes.refl hi)
  | cons o l ih =>
    intro a s act w ρ ho hi h hQ
    have ho1 := ho o (by simp)
    replace h : (@Option.rec Bool (fun _ => AS) .no (fun b => @Bool.rec (fun _ => AS) (evOps E call ks ops l (putA ks a o.dst skipV) s)
      (@VS.rec (fun _ => AS) (fun v s => evOps E call ks ops l (putA ks a o.dst v) s) .no (evOp E call o.op a s)) b) (wantedG a ops o.guard)) = .ok a' s' := h
    cases hw : wantedG a ops o.guard with
    | none => rw [hw] at h; cases h
    | some b =>
      rw [hw] at h
      have hwant := wanted_ok hi.t hw
      unfold wpList
      rw [hwant]
      cases b with
      | false =>
        replace h : evOps E call ks ops l (putA ks a o.dst skipV) s = .ok a' s' := h
        have hg := hi.skip ho1
        simp only [Bool.false_eq_true, if_false]
        exact ih _ _ _ _ _ (fun o ho' => ho o (by simp [ho'])) hg.inv h fun ρ' act' w' g => hQ _ _ _ (hg.trans g)
      | true =>
        replace h : (@VS.rec (fun _ => AS) (fun v s => evOps E call ks ops l (putA ks a o.dst v) s) .no (evOp E call o.op a s)) = .ok a' s' := h
        simp only [if_true]
        left
        cases hv : evOp E call o.op a s with
        | no => rw [hv] at h; cases h
        | ok v s1 =>
          rw [hv] at h
          replace h : evOps E call ks ops l (putA ks a o.dst v) s1 = .ok a' s' := h
          refine op_sound hE hcall hi.h hi.g o (operands_ok hi ho1) hv fun u w1 hd => ?_
          obtain ⟨ρ1, hg⟩ := hi.step ho1 hd
          exact ih _ _ _ _ _ (fun o ho' => ho o (by simp [ho'])) hg.inv h fun ρ' act' w' g => hQ _ _ _ (hg.trans g)

theorem Goes.flush {ρ' : Mp} {a' : A} {s' : St} {act' : Act} {w' : World} (h : Goes ks nt ng ρ s w act ρ' a' s' act' w') : Goes ks nt ng ρ s w act ρ' a'.flush s' act' w' := by
  obtain ⟨f1, f2⟩ := flush_ok h.inv.wf
  refine ⟨h.post, ⟨fun t => ?_, f1, h.inv.h, h.inv.g, h.inv.sz⟩, h.d, h.sm⟩
  rcases f2 t with g | g
  · rw [g]; trivial
  · rw [g]; exact h.inv.t t

end
end Ev

set_option linter.unusedVariables false
set_option linter.unusedSimpArgs false
namespace Ev
open Go

section
variable {P : Program} {w : World} {E : Env} {ρ : Mp} {a : A} {s s' : St} {call : CallF} {ks nt ng : Nat} {act : Act}

def notDefer (o : Op) : Bool := match o with
  | .defer _ => false
  | _ => true
def codeIn (nt ng : Nat) : Code → Bool
  | .skip => true
  | .region _ ops _ => ops.toList.all (fun o => and (operOk nt ng o) (notDefer o.op))
  | .seq a b => and (codeIn nt ng a) (codeIn nt ng b)
  | .cond c a b => and (opndOk ng c) (and (codeIn nt ng a) (codeIn nt ng b))
  | .block _ b => codeIn nt ng b
  | .loop b => codeIn nt ng b
  | .exit _ => true
  | .label _ => true
  | .ret => true
  | _ => false
def codeOk (nt ng : Nat) : Code → Bool
  | .region _ ops _ => ops.toList.all (operOk nt ng)
  | .seq a b => and (codeOk nt ng a) (codeOk nt ng b)
  | .cond c a b => and (opndOk ng c) (and (codeOk nt ng a) (codeOk nt ng b))
  | .block _ b => codeOk nt ng b
  | .loop b => codeOk nt ng b
  | .scope b => codeOk nt ng b
  | .rangeFunc g ps a b => and (and (opndOk ng g) (ps.toList.all (fun p => Nat.ble (Nat.succ p) nt))) (and (codeIn nt ng a) (codeIn nt ng b))
  | _ => true

def DrawOk (P : Program) (E : Env) (ng : Nat) (call : CallF) : Prop := ∀ (ks nt : Nat) (ops : List Oper) (a : A) (s : St) (act : Act) (w : World) (ρ : Mp) (a' : A) (s' : St) (Q : Exit → Act → World → Prop),
  (∀ o ∈ ops, operOk nt ng o = true) → Inv ks nt ng ρ a act s w → evDraw E call ks ops a s = .ok a' s' →
  (∀ ρ' act' w', Goes ks nt ng ρ s w act ρ' a' s' act' w' → Q .normal act' w') → wpAny P .any ops.toArray Q ops.toArray.size (Array.replicate ops.toArray.size false) act { w with drawn := w.drawn + 1 }

def FR (r : Option Nat) : Fence := { Fence.wide with round := r }
theorem calls_FR {r : Option Nat} {n : Nat} {f : FuncId} {args : Array Value} {R : Ending → World → Prop} (h : Calls P f args w R) : CallsIn (FR r) n P f args w R := by
  have h' : CallsIn Fence.wide n P f args w R := callsIn_wide.2 h
  exact h'
theorem rows_FR {r : Option Nat} {n : Nat} {row : String} {args : Array Value} {R : Value → World → Prop} (h : Rows P row args w R) : RowsIn (FR r) n P row args w R := by
  intro c cs _
  obtain ⟨v, w', hr, hs⟩ := h c cs
  exact ⟨v, w', hr, stepsIn_wide.2 hs⟩
theorem op_FR {r : Option Nat} {n : Nat} {o : Oper} {K : Act → World → Prop} {Q : Exit → Act → World → Prop} (hd : notDefer o.op = true) (h : o.wp P act w K Q) : o.wpIn (FR r) n P act w K Q := by
  refine ⟨fun _ _ => trivial, ?_⟩
  rw [show (FR r).round = r from rfl, Oper.semAt_eq r _ _ (fun c hc => by rw [hc] at hd; cases hd)]
  unfold Oper.wp at h
  generalize (execOp act.eval o).run P w = res at h
  cases res with
  | ok x w' => cases x <;> simp only [Oper.upon, Oper.uponIn] at h ⊢ <;> first | exact h | exact ⟨(fun h => by cases h), calls_FR h⟩ | exact ⟨(fun h => by cases h), rows_FR h⟩
  | halt x w' => cases x <;> simp only [Oper.upon, Oper.uponIn] at h ⊢ <;> exact h
theorem list_FR {r : Option Nat} {n : Nat} {ops : Array Oper} {Q : Exit → Act → World → Prop} (hlo : ¬ LetsOut Q) : ∀ (l : List Oper) (act : Act) (w : World), (∀ o ∈ l, notDefer o.op = true) → wpList P ops Q l act w → wpListIn (FR r) n P ops Q l act w := by
  intro l
  induction l with
  | nil => intro act w _ h; exact h
  | cons o l ih =>
    intro act w hd h
    unfold wpList at h
    unfold wpListIn
    split
    · rename_i hw
      rw [if_pos hw] at h
      rcases h with h | h
      · exact op_FR (hd o (by simp)) (Oper.wp_mono (fun a w h => ih a w (fun o ho => hd o (by simp [ho])) h) h)
      · exact absurd h.2 hlo
    · rename_i hw
      rw [if_neg hw] at h
      exact ⟨fun _ _ => trivial, ih _ _ (fun o ho => hd o (by simp [ho])) h⟩
theorem any_FR {r : Option Nat} {n : Nat} {ops : Array Oper} {Q : Exit → Act → World → Prop} (hlo : ¬ LetsOut Q) (hd : ∀ o ∈ ops.toList, notDefer o.op = true) : ∀ (fuel : Nat) (listed : Array Bool) (act : Act) (w : World), wpAny P .any ops Q fuel listed act w → wpAnyIn (FR r) n P .any ops Q fuel listed act w := by
  intro fuel
  induction fuel with
  | zero => intro listed act w h; exact h
  | succ fuel ih =>
    intro listed act w h
    refine ⟨h.1, fun i hi => ?_⟩
    have h := h.2 i hi
    unfold wpOp at h
    unfold wpOpIn
    cases ho : ops[i]? with
    | none => rw [ho] at h; exact ih _ _ _ h
    | some o =>
      rw [ho] at h
      simp only [] at h ⊢
      split
      · rename_i hw
        rw [if_pos hw] at h
        rcases h with h | h
        · exact op_FR (hd o (by have := Array.mem_of_getElem? ho; simpa using this)) (Oper.wp_mono (fun a w h => ih _ a w h) h)
        · exact absurd h.2 hlo
      · rename_i hw
        rw [if_neg hw] at h
        exact ⟨fun _ _ => trivial, ih _ _ _ h⟩

def regP (P : Program) (ops : Array Oper) (Q : Exit → Act → World → Prop) (act : Act) (w : World) : Bool → Prop
  | false => wpList P ops Q ops.toList act w
  | true => wpAny P .any ops Q ops.size (Array.replicate ops.size false) act { w with drawn := w.drawn + 1 }
theorem regP_wp {id : Nat} {ops : Array Oper} {Q : Exit → Act → World → Prop} (hany : P.follows .mixedOrders = true) {d : Bool} (h : regP P ops Q act w d) : (Code.region id ops d).wp P Q act w := by
  cases d with
  | false => exact wp_region_list h
  | true => exact wp_region_any hany h
theorem regP_in {r : Option Nat} {n id : Nat} {ops : Array Oper} {Q : Exit → Act → World → Prop} (hany : P.follows .mixedOrders = true) (hlo : ¬ LetsOut Q) (hd : ∀ o ∈ ops.toList, notDefer o.op = true) {d : Bool} (h : regP P ops Q act w d) : (Code.region id ops d).wpIn (FR r) n P Q act w := by
  cases d with
  | false => exact wpIn_region_list (list_FR hlo _ _ _ hd h)
  | true => exact wpIn_region_any hany (any_FR hlo hd _ _ _ _ h)
theorem reg_ok (hE : EnvOk E P) (hcall : CallOk P ng call) (hd : DrawOk P E ng call) {ops : Array Oper} {d : Bool} {a' : A} {s' : St} {Q : Exit → Act → World → Prop} (hops : ∀ o ∈ ops.toList, operOk nt ng o = true)
    (hi : Inv ks nt ng ρ a act s w) (hr : evRegion E call ks ops.toList d a s = .ok a' s') (hQ : ∀ ρ' act' w', Goes ks nt ng ρ s w act ρ' a' s' act' w' → Q .normal act' w') : regP P ops Q act w d := by
  unfold evRegion at hr
  cases d with
  | false =>
    simp only [] at hr
    cases h2 : evOps E call ks ops.toList ops.toList a s with
    | no => rw [h2] at hr; cases hr
    | ok a2 s2 =>
      rw [h2] at hr
      cases hr
      have := evOps_sound (Q := Q) hE hcall ops.toList a s act w ρ hops hi h2 fun ρ' act' w' g => hQ _ _ _ g.flush
      rw [Array.toArray_toList] at this
      exact this
  | true =>
    simp only [] at hr
    cases h2 : evDraw E call ks ops.toList a s with
    | no => rw [h2] at hr; cases hr
    | ok a2 s2 =>
      rw [h2] at hr
      cases hr
      have := hd ks nt ops.toList a s act w ρ _ _ Q hops hi h2 fun ρ' act' w' g => hQ _ _ _ g.flush
      rw [Array.toArray_toList] at this
      exact this

def exOf : Ex → Exit
  | .nm => .normal
  | .ex i => .exit i
  | .ret => .ret

theorem andThen_ok {r : R} {k : A → St → R} {e : Ex} {a' : A} {s' : St} (h : andThen r k = .ok e a' s') :
    (∃ a1 s1, r = .ok .nm a1 s1 ∧ k a1 s1 = .ok e a' s') ∨ (r = .ok e a' s' ∧ e ≠ .nm) := by
  cases r with
  | bad => cases h
  | ok e1 a1 s1 =>
    cases e1 with
    | nm => exact .inl ⟨a1, s1, rfl, h⟩
    | ex i => cases h; exact .inr ⟨rfl, by intro h; cases h⟩
    | ret => cases h; exact .inr ⟨rfl, by intro h; cases h⟩

def CodeOk (P : Program) (ks nt ng : Nat) (c : Code) (f : A → St → R) : Prop := ∀ (a : A) (s : St) (act : Act) (w : World) (ρ : Mp) (e : Ex) (a' : A) (s' : St) (Q : Exit → Act → World → Prop),
  Inv ks nt ng ρ a act s w → f a s = .ok e a' s' → (∀ ρ' act' w', Goes ks nt ng ρ s w act ρ' a' s' act' w' → Q (exOf e) act' w') → c.wp P Q act w

theorem iter_ok {c : Code} {f : A → St → R} (hc : CodeOk P ks nt ng c f) (Q : Exit → Act → World → Prop) : ∀ (n m : Nat) (a : A) (s : St) (act : Act) (w : World) (ρ : Mp) (e : Ex) (a' : A) (s' : St),
    Inv ks nt ng ρ a act s w → iter f n a s = .ok e a' s' →
    (e = .nm → ∀ ρ' act' w', Goes ks nt ng ρ s w act ρ' a' s' act' w' → Code.rounds P c Q m act' w') →
    (e ≠ .nm → ∀ ρ' act' w', Goes ks nt ng ρ s w act ρ' a' s' act' w' → Q (exOf e) act' w') → Code.rounds P c Q (m + 2 ^ n) act w := by
  intro n
  induction n with
  | zero =>
    intro m a s act w ρ e a' s' hi h h1 h2
    show c.wp P (Exit.then (Code.rounds P c Q m) Q) act w
    refine hc a s act w ρ e a' s' _ hi h fun ρ' act' w' g => ?_
    cases e with
    | nm => exact h1 rfl _ _ _ g
    | ex i => exact h2 (by intro h; cases h) _ _ _ g
    | ret => exact h2 (by intro h; cases h) _ _ _ g
  | succ n ih =>
    intro m a s act w ρ e a' s' hi h h1 h2
    replace h : andThen (iter f n a s) (iter f n) = .ok e a' s' := h
    rw [show m + 2 ^ (n + 1) = (m + 2 ^ n) + 2 ^ n by rw [Nat.pow_succ]; omega]
    rcases andThen_ok h with ⟨a1, s1, q1, q2⟩ | ⟨q1, q2⟩
    · refine ih (m + 2 ^ n) a s act w ρ .nm a1 s1 hi q1 (fun _ ρ1 act1 w1 g => ?_) (fun h => absurd rfl h)
      exact ih m a1 s1 act1 w1 ρ1 e a' s' g.inv q2 (fun he ρ' act' w' g' => h1 he _ _ _ (g.trans g')) (fun he ρ' act' w' g' => h2 he _ _ _ (g.trans g'))
    · exact ih (m + 2 ^ n) a s act w ρ e a' s' hi q1 (fun he => absurd he q2) h2

def CodeOkIn (P : Program) (r : Option Nat) (m0 ks nt ng : Nat) (c : Code) (f : A → St → R) : Prop := ∀ (a : A) (s : St) (act : Act) (w : World) (ρ : Mp) (e : Ex) (a' : A) (s' : St) (Q : Exit → Act → World → Prop),
  Inv ks nt ng ρ a act s w → f a s = .ok e a' s' → (∀ ρ' act' w', Goes ks nt ng ρ s w act ρ' a' s' act' w' → Q (exOf e) act' w') → c.wpIn (FR r) m0 P Q act w

theorem iter_in {c : Code} {f : A → St → R} {r : Option Nat} {m0 : Nat} (hc : CodeOkIn P r m0 ks nt ng c f) (Q : Exit → Act → World → Prop) : ∀ (n m : Nat) (a : A) (s : St) (act : Act) (w : World) (ρ : Mp) (e : Ex) (a' : A) (s' : St),
    Inv ks nt ng ρ a act s w → iter f n a s = .ok e a' s' →
    (e = .nm → ∀ ρ' act' w', Goes ks nt ng ρ s w act ρ' a' s' act' w' → Code.roundsIn (FR r) m0 P c Q m act' w') →
    (e ≠ .nm → ∀ ρ' act' w', Goes ks nt ng ρ s w act ρ' a' s' act' w' → Q (exOf e) act' w') → Code.roundsIn (FR r) m0 P c Q (m + 2 ^ n) act w := by
  intro n
  induction n with
  | zero =>
    intro m a s act w ρ e a' s' hi h h1 h2
    show c.wpIn (FR r) m0 P (Exit.then (Code.roundsIn (FR r) m0 P c Q m) Q) act w
    refine hc a s act w ρ e a' s' _ hi h fun ρ' act' w' g => ?_
    cases e with
    | nm => exact h1 rfl _ _ _ g
    | ex i => exact h2 (by intro h; cases h) _ _ _ g
    | ret => exact h2 (by intro h; cases h) _ _ _ g
  | succ n ih =>
    intro m a s act w ρ e a' s' hi h h1 h2
    replace h : andThen (iter f n a s) (iter f n) = .ok e a' s' := h
    rw [show m + 2 ^ (n + 1) = (m + 2 ^ n) + 2 ^ n by rw [Nat.pow_succ]; omega]
    rcases andThen_ok h with ⟨a1, s1, q1, q2⟩ | ⟨q1, q2⟩
    · refine ih (m + 2 ^ n) a s act w ρ .nm a1 s1 hi q1 (fun _ ρ1 act1 w1 g => ?_) (fun h => absurd rfl h)
      exact ih m a1 s1 act1 w1 ρ1 e a' s' g.inv q2 (fun he ρ' act' w' g' => h1 he _ _ _ (g.trans g')) (fun he ρ' act' w' g' => h2 he _ _ _ (g.trans g'))
    · exact ih (m + 2 ^ n) a s act w ρ e a' s' hi q1 (fun he => absurd he q2) h2

theorem code_in {r : Option Nat} {m0 : Nat} (hE : EnvOk E P) (hcall : CallOk P ng call) (hd : DrawOk P E ng call) (lf : Nat) : ∀ (c : Code), codeIn nt ng c = true → CodeOkIn P r m0 ks nt ng c (evCode E call ks lf c) := by
  intro c
  induction c with
  | skip => intro _ a s act w ρ e a' s' Q hi h hQ; cases h; exact wpIn_skip (hQ _ _ _ (Goes.refl hi))
  | region id ops d =>
    intro hok a s act w ρ e a' s' Q hi h hQ
    have hok' := List.all_eq_true.1 hok
    have hops : ∀ o ∈ ops.toList, operOk nt ng o = true := fun o ho => ((Bool.and_eq_true _ _).mp (hok' o ho)).1
    have hnd : ∀ o ∈ ops.toList, notDefer o.op = true := fun o ho => ((Bool.and_eq_true _ _).mp (hok' o ho)).2
    replace h : regR (evRegion E call ks ops.toList d a s) = .ok e a' s' := h
    cases hr : evRegion E call ks ops.toList d a s with
    | no => rw [hr] at h; cases h
    | ok a1 s1 =>
      rw [hr] at h
      cases h
      refine wpIn_mono (regP_in (Q := fun e act' w' => e = .normal ∧ ∃ ρ', Goes ks nt ng ρ s w act ρ' a' s' act' w') hE.any (fun ⟨a, w, h, _⟩ => by cases h) hnd (reg_ok hE hcall hd hops hi hr fun ρ' act' w' g => ⟨rfl, ρ', g⟩)) ?_
      rintro e act' w' ⟨rfl, ρ', g⟩
      exact hQ _ _ _ g
  | seq x y ihx ihy =>
    intro hok a s act w ρ e a' s' Q hi h hQ
    simp only [codeIn, Bool.and_eq_true] at hok
    replace h : andThen (evCode E call ks lf x a s) (evCode E call ks lf y) = .ok e a' s' := h
    refine wpIn_seq ?_
    rcases andThen_ok h with ⟨a1, s1, q1, q2⟩ | ⟨q1, q2⟩
    · exact ihx hok.1 a s act w ρ .nm a1 s1 _ hi q1 fun ρ1 act1 w1 g =>
        ihy hok.2 a1 s1 act1 w1 ρ1 e a' s' Q g.inv q2 fun ρ' act' w' g' => hQ _ _ _ (g.trans g')
    · refine ihx hok.1 a s act w ρ e a' s' _ hi q1 fun ρ1 act1 w1 g => ?_
      cases e with
      | nm => exact absurd rfl q2
      | ex i => exact hQ _ _ _ g
      | ret => exact hQ _ _ _ g
  | cond c x y ihx ihy =>
    intro hok a s act w ρ e a' s' Q hi h hQ
    simp only [codeIn, Bool.and_eq_true] at hok
    replace h : condR (opnd a c).toB (evCode E call ks lf x a s) (evCode E call ks lf y a s) = .ok e a' s' := h
    cases hb : (opnd a c).toB with
    | none => rw [hb] at h; cases h
    | some b =>
      rw [hb] at h
      have hc := toB_rel (opRel hi.t hi.g hok.1) hb
      refine wpIn_cond hc ?_
      cases b with
      | true => exact ihx hok.2.1 a s act w ρ e a' s' Q hi h hQ
      | false => exact ihy hok.2.2 a s act w ρ e a' s' Q hi h hQ
  | block id b ih =>
    intro hok a s act w ρ e a' s' Q hi h hQ
    replace h : inBlk id (evCode E call ks lf b a s) = .ok e a' s' := h
    refine wpIn_block ?_
    cases hr : evCode E call ks lf b a s with
    | bad => rw [hr] at h; cases h
    | ok e1 a1 s1 =>
      rw [hr] at h
      refine ih hok a s act w ρ e1 a1 s1 _ hi hr fun ρ' act' w' g => ?_
      cases e1 with
      | nm => cases h; exact hQ _ _ _ g
      | ret => cases h; exact hQ _ _ _ g
      | ex j =>
        replace h : (@Bool.rec (fun _ => R) (.ok (.ex j) a1 s1) (.ok .nm a1 s1) (Nat.beq j id)) = R.ok e a' s' := h
        show if j = id then Q .normal act' w' else Q (.exit j) act' w'
        cases hj : Nat.beq j id with
        | true => rw [hj] at h; cases h; rw [if_pos (Nat.eq_of_beq_eq_true hj)]; exact hQ _ _ _ g
        | false => rw [hj] at h; cases h; rw [if_neg (by intro e; subst e; simp at hj)]; exact hQ _ _ _ g
  | loop b ih =>
    intro hok a s act w ρ e a' s' Q hi h hQ
    replace h : loopEnd (iter (evCode E call ks lf b) lf a s) = .ok e a' s' := h
    cases hr : iter (evCode E call ks lf b) lf a s with
    | bad => rw [hr] at h; cases h
    | ok e1 a1 s1 =>
      rw [hr] at h
      have hne : e1 ≠ .nm ∧ e = e1 ∧ a' = a1 ∧ s' = s1 := by
        cases e1 with
        | nm => cases h
        | ex i => cases h; exact ⟨(by intro h; cases h), rfl, rfl, rfl⟩
        | ret => cases h; exact ⟨(by intro h; cases h), rfl, rfl, rfl⟩
      obtain ⟨h1, rfl, rfl, rfl⟩ := hne
      exact wpIn_loop_rounds (0 + 2 ^ lf) (iter_in (ih hok) Q lf 0 a s act w ρ e a' s' hi hr (fun h => absurd h h1) (fun _ => hQ))
  | rangeFunc => intro hok; cases hok
  | exit id => intro _ a s act w ρ e a' s' Q hi h hQ; cases h; exact wpIn_exit (hQ _ _ _ (Goes.refl hi))
  | scope => intro hok; cases hok
  | goto => intro hok; cases hok
  | label => intro _ a s act w ρ e a' s' Q hi h hQ; cases h; exact wpIn_label (hQ _ _ _ (Goes.refl hi))
  | ret => intro _ a s act w ρ e a' s' Q hi h hQ; cases h; exact wpIn_ret (hQ _ _ _ (Goes.refl hi))
  | _ => intro hok; cases hok

theorem putPs_ok {m : Nat} : ∀ (ps : List Nat) (ws : List W) (vs : List Value) (a : A) (tmps : Array Value), ps.length = ws.length → All2 (WRel ρ) ws vs → (∀ p ∈ ps, p < tmps.size) → Wf ks a → (∀ t, VRel ρ (a.get t) (tmps.getD t undef)) →
    Wf ks (putPs ks ps ws a) ∧ ((ps.zip vs).foldl (fun t (p, v) => t.setIfInBounds p v) tmps).size = tmps.size ∧ ∀ t, VRel ρ ((putPs ks ps ws a).get t) (((ps.zip vs).foldl (fun t (p, v) => t.setIfInBounds p v) tmps).getD t undef) := by
  intro ps
  induction ps with
  | nil => intro ws vs a tmps _ _ _ hw ht; exact ⟨hw, rfl, ht⟩
  | cons p ps ih =>
    intro ws vs a tmps hl hv hp hw ht
    cases hv with
    | nil => simp at hl
    | cons h1 h2 =>
      rename_i w0 v0 ws vs
      have := ih ws vs (.put p (.w w0) (tbit ks p) a) (tmps.setIfInBounds p v0) (by simpa using hl) h2 (fun x hx => by simpa using hp x (by simp [hx])) ⟨rfl, hw⟩ (fun t => by
        have := TRel.put (ks := ks) (act := ⟨tmps, []⟩) (ρ := ρ) (a := a) ht (d := some p) (v := .w w0) (u := v0) h1 (fun x hx => by cases hx; exact hp p (by simp))
        exact this t)
      refine ⟨this.1, ?_, this.2.2⟩
      rw [List.zip_cons_cons, List.foldl_cons, this.2.1]
      simp
theorem round1_spec {fa fb : A → St → R} {ps : List Nat} {ws : Option (List W)} {r : Rd1} (h : round1 fa fb ks ps a s ws = r) (hb : r ≠ .bad) :
    ∃ ws' a1 s1 e1 a3 s3, ws = some ws' ∧ ps.length = ws'.length ∧ fa (putPs ks ps ws' a) s = .ok .nm a1 s1 ∧ fb a1 s1 = .ok e1 a3 s3 ∧ ((e1 = .nm ∧ r = .on s3) ∨ (e1 ≠ .nm ∧ r = .out e1 s3)) := by
  unfold round1 at h
  cases ws with
  | none => exact absurd h.symm hb
  | some ws =>
    simp only [] at h
    cases hl : Nat.beq (lenA ps 0) (lenA ws 0) with
    | false => rw [hl] at h; exact absurd h.symm hb
    | true =>
      rw [hl] at h
      simp only [] at h
      have hl' := Nat.eq_of_beq_eq_true hl
      rw [lenA_zero, lenA_zero] at hl'
      cases hf : fa (putPs ks ps ws a) s with
      | bad => rw [hf] at h; exact absurd h.symm hb
      | ok e a1 s1 =>
        rw [hf] at h
        cases e with
        | ex i => exact absurd h.symm hb
        | ret => exact absurd h.symm hb
        | nm =>
          have h : outOf (fb a1 s1) = r := h
          cases hg : fb a1 s1 with
          | bad => rw [hg] at h; exact absurd h.symm hb
          | ok e1 a3 s3 =>
            rw [hg] at h
            refine ⟨ws, a1, s1, e1, a3, s3, rfl, hl', hf, hg, ?_⟩
            cases e1 with
            | nm => exact .inl ⟨rfl, h.symm⟩
            | ex i => exact .inr ⟨(fun h => by cases h), h.symm⟩
            | ret => exact .inr ⟨(fun h => by cases h), h.symm⟩
theorem box_cell {look : Look} {nx : Nat} {W : World} (h : HRel ρ look nx W.heap) {b o : Nat} {x : C} (hx : oneAt look b o = some x) {p : Place} (hp : ρ b = some p) : ∃ v, CRel ρ x v ∧ W.cell? ⟨p.c, p.o + o, none⟩ = some v := by
  unfold oneAt at hx
  cases hr : readL look b o 1 with
  | none => rw [hr] at hx; cases hx
  | some l =>
    rw [hr] at hx
    obtain ⟨r, h1, h2, h3⟩ := readL_some hr
    obtain ⟨p', ob, g1, g2, arr, ty, fz, rfl, hrow⟩ := h.blk b _ h1 rfl
    rw [hp] at g1; cases g1
    obtain ⟨vs, k1, k2, k3⟩ := getL_rel hrow h2 h3
    cases k1 with
    | nil => cases hx
    | cons k1 k4 =>
      cases k4 with
      | cons _ _ => cases hx
      | nil =>
        cases hx
        rename_i v
        refine ⟨v, k1, ?_⟩
        have := k3 0 (by omega)
        simp only [World.cell?, g2]
        simpa using this
def jumpOf : Ex → Option Code
  | .nm => none
  | .ex i => some (.exit i)
  | .ret => some .ret
def ItBack (P : Program) (f te : Nat) : Prop :=
  (∀ args w, (callFunc f args).run P w = .ok (.enter f args) w) ∧
  ∀ (l qb qo N : Nat) (J : Nat → World → Prop) (Jx : World → Prop), N ≤ 9223372036854775807 →
    (∀ W, J N W → ∃ a cap, W.cell? ⟨qb, qo, none⟩ = some (.slice a N cap)) →
    (∀ i W, J (i + 1) W → ∃ b off len cap xv, W.cell? ⟨qb, qo, none⟩ = some (.slice (some ⟨b, off, none⟩) len cap) ∧ i < len ∧ (loadVar te ⟨b, off + i * P.cellsOf te, none⟩).run P W = .ok xv W ∧
      YieldAt Fence.wide 0 P l #[.int .i64 (i : Int), xv] W fun e W' => (e = .returned (.bool true) ∧ J i W') ∨ (e = .returned (.bool false) ∧ Jx W')) →
    ∀ W, J N W → CallsIn Fence.wide 1 P f #[.func (.yield l) #[] #[], .pointer (some ⟨qb, qo, none⟩)] W fun e W' => (∃ v, e = .returned v) ∧ (J 0 W' ∨ Jx W')

theorem round_ok (hE : EnvOk E P) (hcall : CallOk P ng call) (hd : DrawOk P E ng call) (lf : Nat) {ca cb : Code} (hca : codeIn nt ng ca = true) (hcb : codeIn nt ng cb = true) {ps : Array Tmp} (hps : ∀ p ∈ ps.toList, p < nt) {fn : FuncId} {D l : Nat} {w0 : World}
    {rec : LoopState → Option Code → Loop} (hrec : rec = fun st pe => { state := st, pending := pe, fn, tmps := act.tmps, params := ps, assign := ca, body := cb, defers := D }) {s0 : St} {ρ0 : Mp} {W : World} {sk : St} {ρk : Mp} {e1 : Ex} {s3 : St}
    (hsz : nt ≤ act.tmps.size) (hwf : Wf ks a) (ht : TRel ρk a act) (hg0 : GOk ng ρ0) (h0 : HRel ρ0 s0.h.get s0.nx w0.heap) (hp : Post ρ0 s0 w0.heap ρk sk W.heap) (hsm : Same w0 W) (hD : W.heap[D]? = some (.deferred (some []))) (hl : W.heap[l]? = some (.loop (rec .ready none)))
    (hDB : w0.heap.size ≤ D) (hlB : w0.heap.size ≤ l) (hne : D ≠ l) {ws : List Ev.W} {vs : List Value} (hv : All2 (WRel ρk) ws vs) {a1 : A} {s1 : St} {a3 : A} (hlen : ps.toList.length = ws.length) (hfa : evCode E call ks lf ca (putPs ks ps.toList ws a) sk = .ok .nm a1 s1) (hfb : evCode E call ks lf cb a1 s1 = .ok e1 a3 s3)
    (R : Ending → World → Prop) (hR : ∀ ρ3 W3, Post ρ0 s0 w0.heap ρ3 s3 W3.heap → Same w0 W3 → W3.heap[D]? = some (.deferred (some [])) → W3.heap[l]? = some (.loop (rec (if (jumpOf e1).isNone then .ready else .done) (jumpOf e1))) → R (.returned (.bool (jumpOf e1).isNone)) W3) :
    YieldAt Fence.wide 0 P l vs.toArray W R := by
  have hy := run_yield (P := P) (args := vs.toArray) hl (by rw [hrec]; have := hv.length; simp only [Array.length_toList, List.size_toArray] at this hlen ⊢; omega)
  rw [hrec] at hy
  refine ⟨fn, _, ca, cb, hy, roundIn_of_wpIn trivial ?_⟩
  have htm := putPs_ok (ks := ks) (m := 0) ps.toList ws vs a act.tmps hlen hv (fun p hp' => Nat.lt_of_lt_of_le (hps p hp') hsz) hwf ht
  have hfold : (ps.zip vs.toArray).foldl (fun (t : Array Value) (x : Tmp × Value) => t.setIfInBounds x.1 x.2) act.tmps = (ps.toList.zip vs).foldl (fun t (p, v) => t.setIfInBounds p v) act.tmps := by
    rw [← Array.foldl_toList]; simp
  have hgk : GOk ng ρk := hg0.post h0 hp
  have inv0 : Inv ks nt ng ρk (putPs ks ps.toList ws a) { tmps := (ps.toList.zip vs).foldl (fun t (p, v) => t.setIfInBounds p v) act.tmps, defers := [] } sk W := ⟨htm.2.2, htm.1, hp.rel, hgk, by rw [htm.2.1]; exact hsz⟩
  show ca.wpIn (FR (some l)) 0 P _ { tmps := (ps.zip vs.toArray).foldl (fun (t : Array Value) (x : Tmp × Value) => t.setIfInBounds x.1 x.2) act.tmps, defers := [] } W
  rw [hfold]
  refine code_in hE hcall hd lf ca hca _ _ _ _ _ .nm a1 s1 _ inv0 hfa fun ρ1 act1 w1 g => ?_
  have hl1 := g.post.other hp.rel hl rfl
  have hD1 := g.post.other hp.rel hD rfl
  refine ⟨_, run_beginRound hl1 (by rw [hrec]), ?_⟩
  have hlt1 := (Array.getElem?_eq_some_iff.1 hl1).1
  have hp1 := hp.trans g.post
  have hp2 : Post ρ0 s0 w0.heap ρ1 s1 (w1.putObj l (.loop { rec .ready none with state := .busy })).heap := hp1.setOther hlB hl1 rfl _
  have inv1 : Inv ks nt ng ρ1 a1 act1 s1 (w1.putObj l (.loop { rec .ready none with state := .busy })) := ⟨g.inv.t, g.inv.wf, g.inv.h.setOther hl1 rfl _, g.inv.g, g.inv.sz⟩
  have hl2 : (w1.putObj l (.loop { rec .ready none with state := .busy })).heap[l]? = some (.loop { rec .ready none with state := .busy }) := World.putObj_heap_same hlt1
  have hD2 : (w1.putObj l (.loop { rec .ready none with state := .busy })).heap[D]? = some (.deferred (some [])) := (World.putObj_heap_other hne).trans hD1
  refine code_in hE hcall hd lf cb hcb a1 s1 act1 _ ρ1 e1 a3 s3 _ inv1 hfb fun ρ3 act3 W3 g3 => ?_
  have hl3 := g3.post.other inv1.h hl2 rfl
  have hD3 := g3.post.other inv1.h hD2 rfl
  have hp3 := hp2.trans g3.post
  have sm3 : Same w0 W3 := (hsm.trans g.sm).trans (Same.trans ⟨rfl, rfl, rfl⟩ g3.sm)
  have fin : ∀ jump : Option Code, (Instr.endRound l jump).run P W3 = .ok (.bool jump.isNone) (W3.putObj l (.loop (rec (if jump.isNone then .ready else .done) jump))) := by
    intro jump
    have := run_endRound (P := P) jump hl3
    rw [hrec] at this ⊢
    exact this
  have done : R (.returned (.bool (jumpOf e1).isNone)) (W3.putObj l (.loop (rec (if (jumpOf e1).isNone then .ready else .done) (jumpOf e1)))) :=
    hR ρ3 _ (hp3.setOther hlB hl3 rfl _) (sm3.trans ⟨rfl, rfl, rfl⟩) ((World.putObj_heap_other hne).trans hD3) (World.putObj_heap_same (Array.getElem?_eq_some_iff.1 hl3).1)
  cases e1 with
  | nm => exact ⟨_, _, fin none, done⟩
  | ex i => exact ⟨_, _, fin (some (.exit i)), done⟩
  | ret => exact ⟨_, _, fin (some .ret), done⟩

theorem range_back (hE : EnvOk E P) (hcall : CallOk P ng call) (hd : DrawOk P E ng call) (lf : Nat) {g : Operand} {ps : Array Tmp} {ca cb : Code} (hgo : opndOk ng g = true) (hps : ∀ p ∈ ps.toList, p < nt) (hca : codeIn nt ng ca = true) (hcb : codeIn nt ng cb = true)
    {f te b o N : Nat} (hit : ItBack P f te) {e : Ex} {a' : A} {s' : St} {Q : Exit → Act → World → Prop} (hi : Inv ks nt ng ρ a act s w) (hg : opC a g = some (.fn f [(b, o)])) (hN : backLen s.h.get b o = some N)
    (h : backR E te b o (evCode E call ks lf ca) (evCode E call ks lf cb) ks ps.toList a N s = .ok e a' s') (hQ : ∀ ρ' act' w', Goes ks nt ng ρ s w act ρ' a' s' act' w' → Q (exOf e) act' w') : (Code.rangeFunc g ps ca cb).wp P Q act w := by
  refine (wpIn_wide (n := 2)).1 (wpIn_rangeFunc fun fn _ => ?_)
  obtain ⟨vs, hev, hvs⟩ : CRel ρ (.fn f [(b, o)]) (act.eval g) := toC_rel (opRel hi.t hi.g hgo) hg
  obtain ⟨vl⟩ := vs
  cases hvs with
  | cons hb hnil =>
  cases hnil
  obtain ⟨q, hq, rfl⟩ := hb
  obtain ⟨rec, hrec⟩ : ∃ rec : LoopState → Option Code → Loop, rec = fun st pe => { state := st, pending := pe, fn, tmps := act.tmps, params := ps, assign := ca, body := cb, defers := w.heap.size } := ⟨_, rfl⟩
  obtain ⟨W0, hW0⟩ : ∃ W0, (w.alloc (.deferred (some []))).alloc (.loop (rec .ready none)) = W0 := ⟨_, rfl⟩
  have hh0 : W0.heap = (w.heap.push (.deferred (some []))).push (.loop (rec .ready none)) := by rw [← hW0]; rfl
  have hD0 : W0.heap[w.heap.size]? = some (.deferred (some [])) := by rw [hh0]; simp [Array.getElem?_push]
  have hl0 : W0.heap[w.heap.size + 1]? = some (.loop (rec .ready none)) := by
    rw [hh0, Array.getElem?_push, if_pos (by simp)]
  have hp0 : Post ρ s w.heap ρ s W0.heap := by rw [hh0]; exact ((Post.refl hi.h).pushOther _).pushOther _
  have hs0 : Same w W0 := by rw [← hW0]; exact ⟨rfl, rfl, rfl⟩
  refine ⟨w.heap.size + 1, [mkMark w.heap.size], W0, { target := .fn (.func f) #[.pointer (some ⟨q.c, q.o + o, none⟩)], args := #[.func (.yield (w.heap.size + 1)) #[] #[]] }, W0, f,
    #[.func (.yield (w.heap.size + 1)) #[] #[]] ++ #[.pointer (some ⟨q.c, q.o + o, none⟩)], W0, ?_, ?_, fun _ _ => trivial, ?_, fun _ => (by decide), ?_⟩
  · rw [← hW0, hrec]; exact run_enterLoop_outer _ _ _ _ _
  · simp only [resolve, hev]
    simp [go_sem]
  · simp [invoke, go_sem, hit.1]
  have hNle : N ≤ 9223372036854775807 := by
    unfold backLen at hN
    split at hN
    · split at hN
      · rename_i hb; cases hN; exact Nat.le_of_ble_eq_true hb
      · cases hN
    · cases hN; omega
    · cases hN
  have key := hit.2 (w.heap.size + 1) q.c (q.o + o) N
    (fun k W => k ≤ N ∧ ∃ ρk sk, backR E te b o (evCode E call ks lf ca) (evCode E call ks lf cb) ks ps.toList a k sk = .ok e a' s' ∧ (k = N → sk = s) ∧ Post ρ s w.heap ρk sk W.heap ∧ Same w W ∧ W.heap[w.heap.size]? = some (.deferred (some [])) ∧ W.heap[w.heap.size + 1]? = some (.loop (rec .ready none)))
    (fun W => ∃ ρk jc, jumpOf e = some jc ∧ a' = a ∧ Post ρ s w.heap ρk s' W.heap ∧ Same w W ∧ W.heap[w.heap.size]? = some (.deferred (some [])) ∧ W.heap[w.heap.size + 1]? = some (.loop (rec .done (some jc))))
    hNle ?h0 ?h1 W0 ⟨Nat.le_refl _, ρ, s, h, fun _ => rfl, hp0, hs0, hD0, hl0⟩
  case h0 =>
    rintro W ⟨_, ρk, sk, _, hsk, hp, _, _, _⟩
    have hsk := hsk rfl
    subst hsk
    have hqk : ρk b = some q := (hp.le hi.h).f b q hq
    unfold backLen at hN
    cases hx : oneAt sk.h.get b o with
    | none => rw [hx] at hN; cases hN
    | some x =>
      rw [hx] at hN
      obtain ⟨v, hv, hcell⟩ := box_cell hp.rel hx hqk
      cases x with
      | nils => cases hN; exact ⟨none, 0, by rw [hcell]; exact congrArg some hv⟩
      | sl b' o' n' cap z =>
        simp only [] at hN
        split at hN
        · cases hN
          obtain ⟨p, ad, cp, _, rfl, _⟩ := hv
          exact ⟨_, _, hcell⟩
        · cases hN
      | _ => cases hN
  case h1 =>
    rintro i W ⟨hk, ρk, sk, hr, _, hp, hsm, hD, hl⟩
    have hqk : ρk b = some q := (hp.le hi.h).f b q hq
    have hr : @Rd1.rec (fun _ => R) (backR E te b o (evCode E call ks lf ca) (evCode E call ks lf cb) ks ps.toList a i) (fun e s => .ok e a s) .bad (round1 (evCode E call ks lf ca) (evCode E call ks lf cb) ks ps.toList a sk (backAt E te sk.h.get b o i)) = .ok e a' s' := hr
    obtain ⟨r1, hr1⟩ : ∃ r1, round1 (evCode E call ks lf ca) (evCode E call ks lf cb) ks ps.toList a sk (backAt E te sk.h.get b o i) = r1 := ⟨_, rfl⟩
    rw [hr1] at hr
    obtain ⟨ws, a1, s1, e1, a3, s3, hat, hlen, hfa, hfb, hout⟩ := round1_spec hr1 (fun hbad => by rw [hbad] at hr; cases hr)
    unfold backAt at hat
    cases hx : oneAt sk.h.get b o with
    | none => rw [hx] at hat; cases hat
    | some x =>
      rw [hx] at hat
      cases x with
      | sl b' o' n' cap z =>
        simp only [] at hat
        cases hz : sizeT E te with
        | none => rw [hz] at hat; cases hat
        | some z' =>
          rw [hz] at hat
          simp only [] at hat
          cases hc : and (Nat.beq z' z) (Nat.ble (Nat.succ i) n') with
          | false => rw [hc] at hat; cases hat
          | true =>
            rw [hc] at hat
            simp only [] at hat
            rw [Bool.and_eq_true] at hc
            have hzz := Nat.eq_of_beq_eq_true hc.1
            have hin : i < n' := Nat.le_of_ble_eq_true hc.2
            subst hzz
            cases hld : load E te sk.h.get b' (Nat.add o' (Nat.mul i z')) with
            | none => rw [hld] at hat; cases hat
            | some x1 =>
              rw [hld] at hat
              cases hat
              obtain ⟨v, hv, hcell⟩ := box_cell hp.rel hx hqk
              obtain ⟨p, ad, cp, hpb, rfl, hsl⟩ := hv
              have had : ad = ⟨p.c, p.o + o', none⟩ := by
                cases cap with
                | some k => exact (hsl.ex k rfl).2.2
                | none =>
                  rcases (hsl.op rfl).2 with g | g
                  · exact g
                  · have := hsl.le; omega
              subst had
              obtain ⟨xv, hxv, hrun⟩ := run_load_var hE hp.rel.sees hld hpb
              have hcz : P.cellsOf te = z' := by
                unfold sizeT at hz
                cases hti : E.tab.get te with
                | none => rw [hti] at hz; cases hz
                | some ti =>
                  rw [hti] at hz
                  cases hz
                  obtain ⟨fi, g1, g2, _⟩ := hE.tab te ti hti
                  simp [Program.cellsOf, g1, g2]
              have hvs : All2 (WRel ρk) [.c (.int .i64 (Int.ofNat i)), x1] [.int .i64 (i : Int), xv] := .cons rfl (.cons hxv .nil)
              refine ⟨p.c, p.o + o', n', cp, xv, hcell, hin, ?_, ?_⟩
              · rw [hcz, show p.o + o' + i * z' = p.o + (o' + i * z') by omega]; exact hrun
              refine round_ok hE hcall hd lf hca hcb hps hrec hi.sz hi.wf (hi.t.mono (hp.le hi.h)) hi.g hi.h hp hsm hD hl (Nat.le_refl _) (Nat.le_succ _) (by omega) hvs hlen hfa hfb _ fun ρ3 W3 k1 k2 k3 k4 => ?_
              rcases hout with ⟨rfl, rfl⟩ | ⟨hne, rfl⟩
              · exact .inl ⟨rfl, by omega, ρ3, s3, hr, fun hc => by omega, k1, k2, k3, k4⟩
              · cases hr
                cases e with
                | nm => exact absurd rfl hne
                | ex j => exact .inr ⟨rfl, ρ3, _, rfl, rfl, k1, k2, k3, k4⟩
                | ret => exact .inr ⟨rfl, ρ3, _, rfl, rfl, k1, k2, k3, k4⟩
      | _ => cases hat
  refine key.mono ?_
  rintro e2 W2 ⟨⟨v, rfl⟩, hJ⟩
  have fin : ∀ (ρk : Mp) (W3 : World) (pe : Option Code) (st : LoopState), Post ρ s w.heap ρk s' W3.heap → Same w W3 → W3.heap[w.heap.size]? = some (.deferred (some [])) → W3.heap[w.heap.size + 1]? = some (.loop (rec st pe)) → st ≠ .busy → a' = a →
      (Instr.endLoop (w.heap.size + 1)).run P W3 = .ok pe (W3.putObj (w.heap.size + 1) (.loop { rec st pe with state := .exhausted })) ∧ Q (exOf e) { act with defers := [mkMark w.heap.size] ++ act.defers } (W3.putObj (w.heap.size + 1) (.loop { rec st pe with state := .exhausted })) := by
    intro ρk W3 pe st hp hsm hD hl hst ha
    subst ha
    have he := run_endLoop (P := P) hl (by rw [hrec]; exact hst)
    rw [hrec] at he ⊢
    refine ⟨he, hQ ρk _ _ ⟨?_, ⟨hi.t.mono (hp.le hi.h), hi.wf, ?_, hi.g.post hi.h hp, hi.sz⟩, ⟨[w.heap.size], rfl, by simp, fun D hD' => ?_⟩, hsm.trans ⟨rfl, rfl, rfl⟩⟩⟩
    · rw [hrec] at hl; exact hp.setOther (Nat.le_succ _) hl rfl _
    · rw [hrec] at hl; exact hp.rel.setOther hl rfl _
    · simp at hD'; subst hD'
      exact ⟨Nat.le_refl _, (World.putObj_heap_other (by omega)).trans hD⟩
  rcases hJ with ⟨_, ρk, sk, hr, _, hp, hsm, hD, hl⟩ | ⟨ρk, jc, hj, ha, hp, hsm, hD, hl⟩
  · have hr : R.ok .nm a sk = .ok e a' s' := hr
    cases hr
    obtain ⟨h1, h2⟩ := fin ρk W2 none .ready hp hsm hD hl (by intro h; cases h) rfl
    exact ⟨none, _, h1, h2⟩
  · obtain ⟨h1, h2⟩ := fin ρk W2 (some jc) .done hp hsm hD hl (by intro h; cases h) ha
    refine ⟨some jc, _, h1, ?_⟩
    cases e with
    | nm => cases hj
    | ex i => cases hj; exact wpIn_exit h2
    | ret => cases hj; exact wpIn_ret h2

def ItChunk (P : Program) (f ts : Nat) : Prop :=
  (∀ args w, (callFunc f args).run P w = .ok (.enter f args) w) ∧
  ∀ (l qb qo qb' qo' N M : Nat) (J : Nat → World → Prop) (Jx : World → Prop), 1 ≤ M → M + N ≤ 9223372036854775807 →
    (∀ i W, J i W → (∃ a cap, W.cell? ⟨qb, qo, none⟩ = some (.slice a N cap)) ∧ W.cell? ⟨qb', qo', none⟩ = some (.int .i64 (M : Int))) →
    (∀ i W, J i W → J i { W with drawn := W.drawn + 1 }) →
    (∀ i W, J i W → i < N → ∃ b off cap xv, W.cell? ⟨qb, qo, none⟩ = some (.slice (some ⟨b, off, none⟩) N cap) ∧ N ≤ cap ∧
      (Instr.sliceAt ts (.slice (some ⟨b, off, none⟩) N cap) (some (.int .i64 (i : Int))) (some (.int .i64 ((i + min M (N - i) : Nat) : Int))) (some (.int .i64 ((i + min M (N - i) : Nat) : Int)))).run P W = .ok xv W ∧
      YieldAt Fence.wide 0 P l #[xv] W fun e W' => (e = .returned (.bool true) ∧ J (i + min M (N - i)) W') ∨ (e = .returned (.bool false) ∧ Jx W')) →
    ∀ W, J 0 W → CallsIn Fence.wide 1 P f #[.func (.yield l) #[] #[], .pointer (some ⟨qb, qo, none⟩), .pointer (some ⟨qb', qo', none⟩)] W fun e W' => (∃ v, e = .returned v) ∧ ((∃ i, N ≤ i ∧ J i W') ∨ Jx W')
theorem sliceV_ok (hE : EnvOk E P) {look : Look} (h : Sees ρ look w.heap) {t : TypeId} {c c' : C} {v : Value} {i j k : Nat} (hv : CRel ρ c v) (hr : slice E t c (some (.int .i64 (Int.ofNat i))) (some (.int .i64 (Int.ofNat j))) (some (.int .i64 (Int.ofNat k))) look = some c') :
    ∃ u, (Instr.sliceAt t v (some (.int .i64 (Int.ofNat i))) (some (.int .i64 (Int.ofNat j))) (some (.int .i64 (Int.ofNat k)))).run P w = .ok u w ∧ CRel ρ c' u := by
  have hx : OpRel ρ (A.put 0 (.w (.c c)) false (.base 0 .un .nil)) (fun o => match o with | .tmp _ => v | .const x => x | _ => .bool false) (.tmp 0) := hv
  have hk : ∀ n : Nat, OpRel ρ (A.put 0 (.w (.c c)) false (.base 0 .un .nil)) (fun o => match o with | .tmp _ => v | .const x => x | _ => .bool false) (.const (.int .i64 (Int.ofNat n))) := fun n => rfl
  obtain ⟨u, h1, h2⟩ := slice_ok hE h hx (t := t) (lo := some (.const (.int .i64 (Int.ofNat i)))) (hi := some (.const (.int .i64 (Int.ofNat j)))) (mx := some (.const (.int .i64 (Int.ofNat k)))) (v := vc c')
    (fun x hx => by cases hx; exact hk i) (fun x hx => by cases hx; exact hk j) (fun x hx => by cases hx; exact hk k) (by
      show retC (slice E t c (some (.int .i64 (Int.ofNat i))) (some (.int .i64 (Int.ofNat j))) (some (.int .i64 (Int.ofNat k))) look) = _
      rw [hr]; rfl)
  exact ⟨u, h1, h2⟩
theorem range_chunk (hE : EnvOk E P) (hcall : CallOk P ng call) (hd : DrawOk P E ng call) (lf : Nat) {g : Operand} {ps : Array Tmp} {ca cb : Code} (hgo : opndOk ng g = true) (hps : ∀ p ∈ ps.toList, p < nt) (hca : codeIn nt ng ca = true) (hcb : codeIn nt ng cb = true)
    {f ts b o b' o' N M : Nat} (hit : ItChunk P f ts) {e : Ex} {a' : A} {s' : St} {Q : Exit → Act → World → Prop} (hi : Inv ks nt ng ρ a act s w) (hg : opC a g = some (.fn f [(b, o), (b', o')])) (hM1 : 1 ≤ M) (hMN : M + N ≤ 9223372036854775807)
    (h : chunkR E ts b o b' o' N M (evCode E call ks lf ca) (evCode E call ks lf cb) ks ps.toList a (Nat.succ N) 0 s = .ok e a' s') (hQ : ∀ ρ' act' w', Goes ks nt ng ρ s w act ρ' a' s' act' w' → Q (exOf e) act' w') : (Code.rangeFunc g ps ca cb).wp P Q act w := by
  refine (wpIn_wide (n := 2)).1 (wpIn_rangeFunc fun fn _ => ?_)
  obtain ⟨vs, hev, hvs⟩ : CRel ρ (.fn f [(b, o), (b', o')]) (act.eval g) := toC_rel (opRel hi.t hi.g hgo) hg
  obtain ⟨vl⟩ := vs
  cases hvs with
  | cons hb hnil =>
  cases hnil with
  | cons hb2 hnil =>
  cases hnil
  obtain ⟨q, hq, rfl⟩ := hb
  obtain ⟨q2, hq2, rfl⟩ := hb2
  obtain ⟨rec, hrec⟩ : ∃ rec : LoopState → Option Code → Loop, rec = fun st pe => { state := st, pending := pe, fn, tmps := act.tmps, params := ps, assign := ca, body := cb, defers := w.heap.size } := ⟨_, rfl⟩
  obtain ⟨W0, hW0⟩ : ∃ W0, (w.alloc (.deferred (some []))).alloc (.loop (rec .ready none)) = W0 := ⟨_, rfl⟩
  have hh0 : W0.heap = (w.heap.push (.deferred (some []))).push (.loop (rec .ready none)) := by rw [← hW0]; rfl
  have hD0 : W0.heap[w.heap.size]? = some (.deferred (some [])) := by rw [hh0]; simp [Array.getElem?_push]
  have hl0 : W0.heap[w.heap.size + 1]? = some (.loop (rec .ready none)) := by
    rw [hh0, Array.getElem?_push, if_pos (by simp)]
  have hp0 : Post ρ s w.heap ρ s W0.heap := by rw [hh0]; exact ((Post.refl hi.h).pushOther _).pushOther _
  have hs0 : Same w W0 := by rw [← hW0]; exact ⟨rfl, rfl, rfl⟩
  refine ⟨w.heap.size + 1, [mkMark w.heap.size], W0, { target := .fn (.func f) #[.pointer (some ⟨q.c, q.o + o, none⟩), .pointer (some ⟨q2.c, q2.o + o', none⟩)], args := #[.func (.yield (w.heap.size + 1)) #[] #[]] }, W0, f,
    #[.func (.yield (w.heap.size + 1)) #[] #[]] ++ #[.pointer (some ⟨q.c, q.o + o, none⟩), .pointer (some ⟨q2.c, q2.o + o', none⟩)], W0, ?_, ?_, fun _ _ => trivial, ?_, fun _ => (by decide), ?_⟩
  · rw [← hW0, hrec]; exact run_enterLoop_outer _ _ _ _ _
  · simp only [resolve, hev]
    simp [go_sem]
  · simp [invoke, go_sem, hit.1]
  have hlen0 : ∀ (i m : Nat) (sk : St), chunkR E ts b o b' o' N M (evCode E call ks lf ca) (evCode E call ks lf cb) ks ps.toList a m i sk = .ok e a' s' → ∃ m', m = m' + 1 ∧ and (lenIs sk.h.get b o N) (intIs sk.h.get b' o' M) = true := by
    intro i m sk hr
    cases m with
    | zero => cases hr
    | succ m =>
      refine ⟨m, rfl, ?_⟩
      cases hl : and (lenIs sk.h.get b o N) (intIs sk.h.get b' o' M) with
      | true => rfl
      | false =>
        have hr : @Bool.rec (fun _ => R) R.bad _ (and (lenIs sk.h.get b o N) (intIs sk.h.get b' o' M)) = .ok e a' s' := hr
        rw [hl] at hr; cases hr
  have key := hit.2 (w.heap.size + 1) q.c (q.o + o) q2.c (q2.o + o') N M
    (fun i W => ∃ m ρk sk, chunkR E ts b o b' o' N M (evCode E call ks lf ca) (evCode E call ks lf cb) ks ps.toList a m i sk = .ok e a' s' ∧ Post ρ s w.heap ρk sk W.heap ∧ Same w W ∧ W.heap[w.heap.size]? = some (.deferred (some [])) ∧ W.heap[w.heap.size + 1]? = some (.loop (rec .ready none)))
    (fun W => ∃ ρk jc, jumpOf e = some jc ∧ a' = a ∧ Post ρ s w.heap ρk s' W.heap ∧ Same w W ∧ W.heap[w.heap.size]? = some (.deferred (some [])) ∧ W.heap[w.heap.size + 1]? = some (.loop (rec .done (some jc))))
    hM1 hMN ?h0 (fun i W hJ => hJ) ?h1 W0 ⟨_, ρ, s, h, hp0, hs0, hD0, hl0⟩
  case h0 =>
    rintro i W ⟨m, ρk, sk, hr, hp, _, _, _⟩
    obtain ⟨_, _, hN⟩ := hlen0 i m sk hr
    rw [Bool.and_eq_true] at hN
    obtain ⟨hN, hM⟩ := hN
    have hqk : ρk b = some q := (hp.le hi.h).f b q hq
    have hqk2 : ρk b' = some q2 := (hp.le hi.h).f b' q2 hq2
    refine ⟨?_, ?_⟩
    · unfold lenIs backLen at hN
      cases hx : oneAt sk.h.get b o with
      | none => rw [hx] at hN; cases hN
      | some x =>
        rw [hx] at hN
        obtain ⟨v, hv, hcell⟩ := box_cell hp.rel hx hqk
        cases x with
        | nils =>
          have hN : Nat.beq 0 N = true := hN
          have := Nat.eq_of_beq_eq_true hN
          subst this
          exact ⟨none, 0, by rw [hcell]; exact congrArg some hv⟩
        | sl b' o' n' cap z =>
          simp only [] at hN
          cases hb : Nat.ble n' 9223372036854775807 with
          | false => rw [hb] at hN; cases hN
          | true =>
            rw [hb] at hN
            have hN : Nat.beq n' N = true := hN
            have := Nat.eq_of_beq_eq_true hN
            subst this
            obtain ⟨p, ad, cp, _, rfl, _⟩ := hv
            exact ⟨_, _, hcell⟩
        | _ => cases hN
    · unfold intIs intAt at hM
      cases hy : oneAt sk.h.get b' o' with
      | none => rw [hy] at hM; cases hM
      | some y =>
        rw [hy] at hM
        obtain ⟨v, hv, hcell⟩ := box_cell hp.rel hy hqk2
        rw [hcell]
        split at hM
        · rename_i k heq
          split at heq
          · rename_i mm he
            cases he; cases heq
            have := Nat.eq_of_beq_eq_true hM
            subst this
            exact congrArg some hv
          · cases heq
        · cases hM
  case h1 =>
    rintro i W ⟨m, ρk, sk, hr, hp, hsm, hD, hl⟩ hiN
    obtain ⟨m', rfl, hln⟩ := hlen0 i m sk hr
    have hqk : ρk b = some q := (hp.le hi.h).f b q hq
    have hqk2 : ρk b' = some q2 := (hp.le hi.h).f b' q2 hq2
    have hr : @Bool.rec (fun _ => R) R.bad (@Bool.rec (fun _ => R) (.ok .nm a sk) (@Option.rec C (fun _ => R) .bad (fun x => @Rd1.rec (fun _ => R) (chunkR E ts b o b' o' N M (evCode E call ks lf ca) (evCode E call ks lf cb) ks ps.toList a m' (Nat.add i (Nat.min M (Nat.sub N i)))) (fun e s => .ok e a s) .bad (round1 (evCode E call ks lf ca) (evCode E call ks lf cb) ks ps.toList a sk (some [.c x]))) (chunkAt E ts sk.h.get b o N M i)) (Nat.ble (Nat.succ i) N)) (and (lenIs sk.h.get b o N) (intIs sk.h.get b' o' M)) = .ok e a' s' := hr
    rw [hln, show Nat.ble (Nat.succ i) N = true from Nat.ble_eq_true_of_le hiN] at hr
    cases hat : chunkAt E ts sk.h.get b o N M i with
    | none => rw [hat] at hr; cases hr
    | some xc =>
      rw [hat] at hr
      have hr : @Rd1.rec (fun _ => R) (chunkR E ts b o b' o' N M (evCode E call ks lf ca) (evCode E call ks lf cb) ks ps.toList a m' (Nat.add i (Nat.min M (Nat.sub N i)))) (fun e s => .ok e a s) .bad (round1 (evCode E call ks lf ca) (evCode E call ks lf cb) ks ps.toList a sk (some [.c xc])) = .ok e a' s' := hr
      obtain ⟨r1, hr1⟩ : ∃ r1, round1 (evCode E call ks lf ca) (evCode E call ks lf cb) ks ps.toList a sk (some [.c xc]) = r1 := ⟨_, rfl⟩
      rw [hr1] at hr
      obtain ⟨ws, a1, s1, e1, a3, s3, hws, hlen, hfa, hfb, hout⟩ := round1_spec hr1 (fun hbad => by rw [hbad] at hr; cases hr)
      cases hws
      unfold chunkAt at hat
      cases hx : oneAt sk.h.get b o with
      | none => rw [hx] at hat; cases hat
      | some x =>
        rw [hx] at hat
        cases x with
        | sl c p n' cap z =>
          simp only [] at hat
          cases hnn : Nat.beq n' N with
          | false => rw [hnn] at hat; cases hat
          | true =>
            rw [hnn] at hat
            have := Nat.eq_of_beq_eq_true hnn
            subst this
            simp only [] at hat
            obtain ⟨v, hv, hcell⟩ := box_cell hp.rel hx hqk
            obtain ⟨u, hu1, hu2⟩ := sliceV_ok (w := W) hE hp.rel.sees hv hat
            obtain ⟨p', ad, cp, hpb, rfl, hsl⟩ := hv
            have had : ad = ⟨p'.c, p'.o + p, none⟩ := by
              cases cap with
              | some k => exact (hsl.ex k rfl).2.2
              | none =>
                rcases (hsl.op rfl).2 with g | g
                · exact g
                · have := hsl.le; omega
            subst had
            refine ⟨_, _, cp, u, hcell, hsl.le, hu1, ?_⟩
            have hvs : All2 (WRel ρk) [.c xc] [u] := .cons hu2 .nil
            refine round_ok hE hcall hd lf hca hcb hps hrec hi.sz hi.wf (hi.t.mono (hp.le hi.h)) hi.g hi.h hp hsm hD hl (Nat.le_refl _) (Nat.le_succ _) (by omega) hvs hlen hfa hfb _ fun ρ3 W3 k1 k2 k3 k4 => ?_
            rcases hout with ⟨rfl, rfl⟩ | ⟨hne, rfl⟩
            · exact .inl ⟨rfl, m', ρ3, s3, hr, k1, k2, k3, k4⟩
            · cases hr
              cases e with
              | nm => exact absurd rfl hne
              | ex j => exact .inr ⟨rfl, ρ3, _, rfl, rfl, k1, k2, k3, k4⟩
              | ret => exact .inr ⟨rfl, ρ3, _, rfl, rfl, k1, k2, k3, k4⟩
        | _ => cases hat
  refine key.mono ?_
  rintro e2 W2 ⟨⟨v, rfl⟩, hJ⟩
  have fin : ∀ (ρk : Mp) (W3 : World) (pe : Option Code) (st : LoopState), Post ρ s w.heap ρk s' W3.heap → Same w W3 → W3.heap[w.heap.size]? = some (.deferred (some [])) → W3.heap[w.heap.size + 1]? = some (.loop (rec st pe)) → st ≠ .busy → a' = a →
      (Instr.endLoop (w.heap.size + 1)).run P W3 = .ok pe (W3.putObj (w.heap.size + 1) (.loop { rec st pe with state := .exhausted })) ∧ Q (exOf e) { act with defers := [mkMark w.heap.size] ++ act.defers } (W3.putObj (w.heap.size + 1) (.loop { rec st pe with state := .exhausted })) := by
    intro ρk W3 pe st hp hsm hD hl hst ha
    subst ha
    have he := run_endLoop (P := P) hl (by rw [hrec]; exact hst)
    rw [hrec] at he ⊢
    refine ⟨he, hQ ρk _ _ ⟨?_, ⟨hi.t.mono (hp.le hi.h), hi.wf, ?_, hi.g.post hi.h hp, hi.sz⟩, ⟨[w.heap.size], rfl, by simp, fun D hD' => ?_⟩, hsm.trans ⟨rfl, rfl, rfl⟩⟩⟩
    · rw [hrec] at hl; exact hp.setOther (Nat.le_succ _) hl rfl _
    · rw [hrec] at hl; exact hp.rel.setOther hl rfl _
    · simp at hD'; subst hD'
      exact ⟨Nat.le_refl _, (World.putObj_heap_other (by omega)).trans hD⟩
  rcases hJ with ⟨i, hiN, m, ρk, sk, hr, hp, hsm, hD, hl⟩ | ⟨ρk, jc, hj, ha, hp, hsm, hD, hl⟩
  · obtain ⟨m', rfl, hln⟩ := hlen0 i m sk hr
    have hr : @Bool.rec (fun _ => R) R.bad (@Bool.rec (fun _ => R) (.ok .nm a sk) _ (Nat.ble (Nat.succ i) N)) (and (lenIs sk.h.get b o N) (intIs sk.h.get b' o' M)) = .ok e a' s' := hr
    have hbf : Nat.ble (Nat.succ i) N = false := by
      cases hb : Nat.ble (Nat.succ i) N with
      | false => rfl
      | true => have := Nat.le_of_ble_eq_true hb; omega
    rw [hln, hbf] at hr
    cases hr
    obtain ⟨h1, h2⟩ := fin ρk W2 none .ready hp hsm hD hl (by intro h; cases h) rfl
    exact ⟨none, _, h1, h2⟩
  · obtain ⟨h1, h2⟩ := fin ρk W2 (some jc) .done hp hsm hD hl (by intro h; cases h) ha
    refine ⟨some jc, _, h1, ?_⟩
    cases e with
    | nm => cases hj
    | ex i => cases hj; exact wpIn_exit h2
    | ret => cases hj; exact wpIn_ret h2

def ItOk (P : Program) (E : Env) : Prop := (∀ f ts te, E.ext.get f = some (.itb ts te) → ItBack P f te) ∧ ∀ f ts, E.ext.get f = some (.itc ts) → ItChunk P f ts
theorem code_sound (hE : EnvOk E P) (hcall : CallOk P ng call) (hd : DrawOk P E ng call) (hit : ItOk P E) (lf : Nat) : ∀ (c : Code), codeOk nt ng c = true → CodeOk P ks nt ng c (evCode E call ks lf c) := by
  intro c
  induction c with
  | skip => intro _ a s act w ρ e a' s' Q hi h hQ; cases h; exact wp_skip (hQ _ _ _ (Goes.refl hi))
  | region id ops d =>
    intro hok a s act w ρ e a' s' Q hi h hQ
    have hops : ∀ o ∈ ops.toList, operOk nt ng o = true := List.all_eq_true.1 hok
    replace h : regR (evRegion E call ks ops.toList d a s) = .ok e a' s' := h
    cases hr : evRegion E call ks ops.toList d a s with
    | no => rw [hr] at h; cases h
    | ok a1 s1 =>
      rw [hr] at h
      cases h
      exact regP_wp hE.any (reg_ok hE hcall hd hops hi hr hQ)
  | seq x y ihx ihy =>
    intro hok a s act w ρ e a' s' Q hi h hQ
    simp only [codeOk, Bool.and_eq_true] at hok
    replace h : andThen (evCode E call ks lf x a s) (evCode E call ks lf y) = .ok e a' s' := h
    refine wp_seq ?_
    rcases andThen_ok h with ⟨a1, s1, q1, q2⟩ | ⟨q1, q2⟩
    · exact ihx hok.1 a s act w ρ .nm a1 s1 _ hi q1 fun ρ1 act1 w1 g =>
        ihy hok.2 a1 s1 act1 w1 ρ1 e a' s' Q g.inv q2 fun ρ' act' w' g' => hQ _ _ _ (g.trans g')
    · refine ihx hok.1 a s act w ρ e a' s' _ hi q1 fun ρ1 act1 w1 g => ?_
      cases e with
      | nm => exact absurd rfl q2
      | ex i => exact hQ _ _ _ g
      | ret => exact hQ _ _ _ g
  | cond c x y ihx ihy =>
    intro hok a s act w ρ e a' s' Q hi h hQ
    simp only [codeOk, Bool.and_eq_true] at hok
    replace h : condR (opnd a c).toB (evCode E call ks lf x a s) (evCode E call ks lf y a s) = .ok e a' s' := h
    cases hb : (opnd a c).toB with
    | none => rw [hb] at h; cases h
    | some b =>
      rw [hb] at h
      have hc := toB_rel (opRel hi.t hi.g hok.1) hb
      refine wp_cond hc ?_
      cases b with
      | true => exact ihx hok.2.1 a s act w ρ e a' s' Q hi h hQ
      | false => exact ihy hok.2.2 a s act w ρ e a' s' Q hi h hQ
  | block id b ih =>
    intro hok a s act w ρ e a' s' Q hi h hQ
    replace h : inBlk id (evCode E call ks lf b a s) = .ok e a' s' := h
    refine wp_block ?_
    cases hr : evCode E call ks lf b a s with
    | bad => rw [hr] at h; cases h
    | ok e1 a1 s1 =>
      rw [hr] at h
      refine ih hok a s act w ρ e1 a1 s1 _ hi hr fun ρ' act' w' g => ?_
      cases e1 with
      | nm => cases h; exact hQ _ _ _ g
      | ret => cases h; exact hQ _ _ _ g
      | ex j =>
        replace h : (@Bool.rec (fun _ => R) (.ok (.ex j) a1 s1) (.ok .nm a1 s1) (Nat.beq j id)) = R.ok e a' s' := h
        show if j = id then Q .normal act' w' else Q (.exit j) act' w'
        cases hj : Nat.beq j id with
        | true => rw [hj] at h; cases h; rw [if_pos (Nat.eq_of_beq_eq_true hj)]; exact hQ _ _ _ g
        | false => rw [hj] at h; cases h; rw [if_neg (by intro e; subst e; simp at hj)]; exact hQ _ _ _ g
  | loop b ih =>
    intro hok a s act w ρ e a' s' Q hi h hQ
    replace h : loopEnd (iter (evCode E call ks lf b) lf a s) = .ok e a' s' := h
    cases hr : iter (evCode E call ks lf b) lf a s with
    | bad => rw [hr] at h; cases h
    | ok e1 a1 s1 =>
      rw [hr] at h
      have hne : e1 ≠ .nm ∧ e = e1 ∧ a' = a1 ∧ s' = s1 := by
        cases e1 with
        | nm => cases h
        | ex i => cases h; exact ⟨(by intro h; cases h), rfl, rfl, rfl⟩
        | ret => cases h; exact ⟨(by intro h; cases h), rfl, rfl, rfl⟩
      obtain ⟨h1, rfl, rfl, rfl⟩ := hne
      exact wp_loop_rounds (0 + 2 ^ lf) (iter_ok (ih hok) Q lf 0 a s act w ρ e a' s' hi hr (fun h => absurd h h1) (fun _ => hQ))
  | rangeFunc g ps ca cb iha ihb =>
    intro hok a s act w ρ e a' s' Q hi h hQ
    simp only [codeOk, Bool.and_eq_true] at hok
    have hps : ∀ p ∈ ps.toList, p < nt := fun p hp => Nat.le_of_ble_eq_true (List.all_eq_true.1 hok.1.2 p hp)
    replace h : rangeR E (evCode E call ks lf ca) (evCode E call ks lf cb) ks g ps.toList a s = .ok e a' s' := h
    unfold rangeR at h
    split at h
    · rename_i f cap hg
      split at h
      · rename_i ts te hx
        split at h
        · rename_i b o
          split at h
          · rename_i N hN
            exact range_back hE hcall hd lf hok.1.1 hps hok.2.1 hok.2.2 (hit.1 f ts te hx) hi hg hN h hQ
          · cases h
        · cases h
      · rename_i ts hx
        split at h
        · rename_i b o b' o'
          split at h
          · rename_i N hN
            split at h
            · rename_i M hM
              split at h
              · rename_i hc
                rw [Bool.and_eq_true] at hc
                exact range_chunk hE hcall hd lf hok.1.1 hps hok.2.1 hok.2.2 (hit.2 f ts hx) hi hg (Nat.le_of_ble_eq_true hc.1) (Nat.le_of_ble_eq_true hc.2) h hQ
              · cases h
            · cases h
          · cases h
        · cases h
      · cases h
    · cases h
  | exit id => intro _ a s act w ρ e a' s' Q hi h hQ; cases h; exact wp_exit (hQ _ _ _ (Goes.refl hi))
  | scope b ih =>
    intro hok a s act w ρ e a' s' Q hi h hQ
    refine wp_scope_straight (ih hok a s act w ρ e a' s' _ hi h fun ρ' act' w' g => ?_)
    cases e with
    | nm => exact hQ _ _ _ g
    | ex i => exact hQ _ _ _ g
    | ret => exact hQ _ _ _ g
  | goto => intro _ a s act w ρ e a' s' Q hi h hQ; cases h
  | label => intro _ a s act w ρ e a' s' Q hi h hQ; cases h; exact wp_label (hQ _ _ _ (Goes.refl hi))
  | ret => intro _ a s act w ρ e a' s' Q hi h hQ; cases h; exact wp_ret (hQ _ _ _ (Goes.refl hi))
  | _ => intro _ a s act w ρ e a' s' Q hi h hQ; cases h

end
end Ev

set_option linter.unusedVariables false
set_option linter.unusedSimpArgs false
namespace Ev
open Go

section
variable {P : Program} {w : World} {E : Env} {ρ : Mp} {a : A} {s s' : St} {call : CallF} {ks nt ng : Nat} {act : Act}

def resM (tmps : Array Value) : ResultVar → Sem Value
  | .tmp t => pure (tmps.getD t undef)
  | .cell a t => do loadVar t (← asAddr (tmps.getD a undef))
theorem resOf_ok (hE : EnvOk E P) (hi : Inv ks nt ng ρ a act s w) : ∀ (l : List ResultVar) (ws : List W), resOf E a s l = some ws →
    ∃ vs : List Value, All2 (WRel ρ) ws vs ∧ (l.mapM (resM act.tmps)).run P w = .ok vs w
  | [], ws, h => by simp only [resOf, Option.some.injEq] at h; subst h; exact ⟨[], .nil, rfl⟩
  | r :: l, ws, h => by
    simp only [resOf] at h
    cases h1 : resOne E a s r with
    | none => rw [h1] at h; cases h
    | some x =>
      rw [h1] at h
      simp only [] at h
      cases h2 : resOf E a s l with
      | none => rw [h2] at h; cases h
      | some xs =>
        rw [h2] at h
        cases h
        obtain ⟨vs, g1, g2⟩ := resOf_ok hE hi l xs h2
        have one : ∃ v, WRel ρ x v ∧ (resM act.tmps r).run P w = .ok v w := by
          cases r with
          | tmp t =>
            have : (a.get t).toW = some x := h1
            exact ⟨_, toW_rel (hi.t t) this, rfl⟩
          | cell c t =>
            simp only [resOne] at h1
            cases hp : opP a (.tmp c) with
            | none => rw [hp] at h1; cases h1
            | some bo =>
              obtain ⟨b, o⟩ := bo
              rw [hp] at h1
              simp only [] at h1
              obtain ⟨p, q1, q2⟩ := toP_rel (hi.t c) hp
              obtain ⟨v, k1, k2⟩ := run_load_var hE hi.h.sees h1 q1
              refine ⟨v, k1, ?_⟩
              simp only [resM, q2, asAddr, Sem.run_bind, Sem.run_pure, Result.andThen_ok]
              exact k2
        obtain ⟨v, k1, k2⟩ := one
        refine ⟨v :: vs, .cons k1 g1, ?_⟩
        simp only [List.mapM_cons, Sem.run_bind, k2, Result.andThen_ok, g2, Sem.run_pure]

theorem tup_ok : ∀ {ws : List W} {vs : List Value}, All2 (WRel ρ) ws vs → VRel ρ (tupOf ws) (if h : vs.toArray.size = 1 then vs.toArray[0] else .tuple vs.toArray) := by
  intro ws vs h
  cases h with
  | nil => exact ⟨#[], rfl, .nil⟩
  | cons h1 h2 =>
    cases h2 with
    | nil => exact h1
    | cons h2 h3 => exact ⟨_, by simp, .cons h1 (.cons h2 h3)⟩

theorem results_ok (hE : EnvOk E P) (hi : Inv ks nt ng ρ a act s w) {fn : Func} {ws : List W} (h : resOf E a s fn.results.toList = some ws) :
    ∃ v, VRel ρ (tupOf ws) v ∧ (results fn act.tmps).run P w = .ok v w := by
  obtain ⟨vs, h1, h2⟩ := resOf_ok (P := P) hE hi _ ws h
  refine ⟨_, tup_ok h1, ?_⟩
  show Sem.run P (do let vs ← fn.results.mapM (resM act.tmps); pure (if h : vs.size = 1 then vs[0] else .tuple vs)) w = _
  rw [Array.mapM_eq_mapM_toList]
  simp only [Sem.run_bind, map_eq_pure_bind, h2, Result.andThen_ok, Sem.run_pure]

structure KpsOk (E : Env) (P : Program) (ng : Nat) : Prop where
  ok : ∀ f ks fn, E.kps.get f = some ks → E.fns.get f = some fn → P.funcs[f]? = some fn ∧ (fn.name == "runtime.NumGoroutine") = false ∧ ∀ c, fn.body = some c → codeOk fn.ntmps ng c = true

theorem argsA_get : ∀ (l : List W) (i t : Nat), (argsA l i).get t = if i ≤ t ∧ t < i + l.length then .w (l.getD (t - i) (.agg [])) else .un
  | [], i, t => by rw [if_neg (by simp only [List.length_nil]; omega)]; rfl
  | x :: l, i, t => by
    show (L.cons i (.w x) (argsA l (Nat.succ i))).get t = _
    rw [L.get_cons, argsA_get l (i + 1) t]
    by_cases h : i = t
    · subst h; rw [if_pos rfl, if_pos (by simp)]; simp
    · rw [if_neg h]
      by_cases h2 : i + 1 ≤ t ∧ t < i + 1 + l.length
      · rw [if_pos h2, if_pos (by simp; omega), show t - i = (t - (i + 1)) + 1 by omega]; rfl
      · rw [if_neg h2, if_neg (by simp; omega)]

theorem tbit_eq (m d : Nat) : tbit m d = m.testBit d := by
  show Nat.beq ((m >>> d) &&& 1) 1 = _
  rw [Nat.testBit_eq_decide_div_mod_eq, Nat.and_one_is_mod, Nat.shiftRight_eq_div_pow, beq_nat]
  rfl
theorem argsKept_ok {n : Nat} (h : argsKept ks n = true) : ∀ t, t < n → tbit ks t = true := by
  intro t ht
  have h1 : ks &&& (1 <<< n - 1) = 1 <<< n - 1 := Nat.eq_of_beq_eq_true h
  rw [Nat.shiftLeft_eq, Nat.one_mul] at h1
  have h2 := congrArg (fun x => x.testBit t) h1
  simp only [Nat.testBit_and, Nat.testBit_two_pow_sub_one, ht, decide_true, Bool.and_true] at h2
  rw [tbit_eq]; exact h2

theorem leave_marks {fn : Func} {tmps : Array Value} {R : Ending → World → Prop} {ρ' : Mp} : ∀ (l : List Nat) (w' : World), l.Nodup → (∀ D ∈ l, w.heap.size ≤ D ∧ w'.heap[D]? = some (.deferred (some []))) → Post ρ s w.heap ρ' s' w'.heap → Same w w' →
    (∀ w'', Post ρ s w.heap ρ' s' w''.heap → Same w w'' → ∃ v, (results fn tmps).run P w'' = .ok v w'' ∧ R (.returned v) w'') → LeavesInM Fence.wide 0 P fn tmps R (l.map mkMark) .returning w' := by
  intro l
  induction l with
  | nil => intro w' _ _ hp hs h; exact h w' hp hs
  | cons D l ih =>
    intro w' hn hD hp hs h
    rw [List.nodup_cons] at hn
    have h1 := hD D (by simp)
    refine ⟨(by intro h; cases h), .inl ⟨D, _, rfl, run_takeDeferred h1.2, ih _ hn.2 (fun D' hD' => ?_) (hp.setOther h1.1 h1.2 rfl _) (hs.trans ⟨rfl, rfl, rfl⟩) h⟩⟩
    have h2 := hD D' (by simp [hD'])
    exact ⟨h2.1, (World.putObj_heap_other (fun e => hn.1 (by rw [← e]; exact hD'))).trans h2.2⟩

theorem runB_ok (hE : EnvOk E P) (hk : KpsOk E P ng) (hcall : CallOk P ng call) (hd : DrawOk P E ng call) (hit : ItOk P E) {lf f : Nat} {fn : Func} (hks : E.kps.get f = some ks) (hfn : E.fns.get f = some fn) {args : List W} {v : V}
    (hr : runB E call lf ks fn args s = .ok v s') (h : HRel ρ s.h.get s.nx w.heap) (hg : GOk ng ρ) {vals : Array Value} (hv : All2 (WRel ρ) args vals.toList) :
    (callFunc f vals).run P w = .ok (.enter f vals) w ∧ Calls P f vals w (fun e w' => ∃ u, e = .returned u ∧ Done ρ s w v s' u w') := by
  obtain ⟨hP, hname, hcode⟩ := hk.ok f ks fn hks hfn
  unfold runB at hr
  cases hb : fn.body with
  | none => rw [hb] at hr; cases hr
  | some c =>
    rw [hb] at hr
    simp only [] at hr
    cases hak : argsKept ks (lenA args 0) with
    | false => rw [hak] at hr; cases hr
    | true =>
      rw [hak] at hr
      simp only [] at hr
      rw [lenA_zero] at hak
      have hkept := argsKept_ok hak
      have hlen := hv.length
      simp at hlen
      have henter : (callFunc f vals).run P w = .ok (.enter f vals) w := by
        unfold callFunc
        have hname' : ¬ fn.name = "runtime.NumGoroutine" := by simpa using hname
        simp [hP, hname', hb]
      refine ⟨henter, (callsIn_wide (n := 0)).1 (callsIn_of_wp_marks hP hb trivial (wpIn_wide.2 ?_))⟩
      have hinv : Inv ks fn.ntmps ng ρ (.base 0 ((argsA args 0).get 0) (argsA args 0)) { tmps := vals ++ Array.replicate (fn.ntmps - vals.size) undef, defers := [] } s w := by
        refine ⟨fun t => ?_, ⟨fun t ht => ?_, .inr rfl⟩, h, hg, by simp; omega⟩
        · rw [A.get_base]
          have : (if 0 = t then (argsA args 0).get 0 else (argsA args 0).get t) = (argsA args 0).get t := by
            by_cases e : 0 = t
            · subst e; rw [if_pos rfl]
            · rw [if_neg e]
          rw [this, argsA_get]
          by_cases ht : 0 ≤ t ∧ t < 0 + args.length
          · rw [if_pos ht]
            have hx : args[t]? = some (args.getD (t - 0) (.agg [])) := by
              rw [List.getD_eq_getElem?_getD, Nat.sub_zero, List.getElem?_eq_getElem (by omega)]; rfl
            obtain ⟨u, g1, g2⟩ := hv.get hx
            have g1' : vals[t]? = some u := by simpa using g1
            show WRel ρ _ ((vals ++ Array.replicate (fn.ntmps - vals.size) undef).getD t undef)
            rw [Array.getD_eq_getD_getElem?, Array.getElem?_append, if_pos (by omega), g1']
            exact g2
          · rw [if_neg ht]; trivial
        · rw [argsA_get, if_neg]
          rintro ⟨_, h2⟩
          rw [hkept t (by omega)] at ht
          cases ht
      cases hc : evCode E call ks lf c (.base 0 ((argsA args 0).get 0) (argsA args 0)) s with
      | bad => rw [hc] at hr; cases hr
      | ok e a1 s1 =>
        rw [hc] at hr
        have hres : e = .nm ∨ e = .ret := by cases e with | nm => exact .inl rfl | ret => exact .inr rfl | ex i => cases hr
        have hr2 : resL (resOf E a1 s1 fn.results.toList) s1 = .ok v s' := by cases e with | nm => exact hr | ret => exact hr | ex i => cases hr
        cases hws : resOf E a1 s1 fn.results.toList with
        | none => rw [hws] at hr2; cases hr2
        | some ws =>
          rw [hws] at hr2
          cases hr2
          refine code_sound hE hcall hd hit lf c (hcode c hb) _ _ _ _ _ e a1 _ _ hinv hc fun ρ' act' w' g => ?_
          obtain ⟨l, hl, hn, hD⟩ := g.d
          rw [List.append_nil] at hl
          have := leave_marks (P := P) (fn := fn) (tmps := act'.tmps) (R := fun e w' => ∃ u, e = .returned u ∧ Done ρ s w (tupOf ws) s' u w') l w' hn hD g.post g.sm (fun w'' hp hs => by
            obtain ⟨u, q1, q2⟩ := results_ok (act := act') hE ⟨g.inv.t, g.inv.wf, hp.rel, g.inv.g, g.inv.sz⟩ hws
            exact ⟨u, q2, u, rfl, ρ', ⟨hp, hs⟩, q1⟩)
          rw [← hl] at this
          rcases hres with rfl | rfl <;> exact this

def ExtOk (P : Program) (E : Env) (ng : Nat) : Prop := ∀ f x, E.ext.get f = some x → ∀ (args : List W) (s : St) (v : V) (s' : St) (ρ : Mp) (w : World) (vals : Array Value),
  HRel ρ s.h.get s.nx w.heap → GOk ng ρ → extF x args s = .ok v s' → All2 (WRel ρ) args vals.toList →
  ((callFunc f vals).run P w = .ok (.enter f vals) w ∧ Calls P f vals w (fun e w' => ∃ u, e = .returned u ∧ Done ρ s w v s' u w')) ∨
  (∃ u w', (callFunc f vals).run P w = .ok (.value u) w' ∧ Done ρ s w v s' u w')

theorem runF_ok (hE : EnvOk E P) (hk : KpsOk E P ng) (hx : ExtOk P E ng) (hd : ∀ call, CallOk P ng call → DrawOk P E ng call) (hit : ItOk P E) (lf : Nat) : ∀ n, CallOk P ng (runF E lf n) := by
  intro n
  induction n with
  | zero => intro f args s v s' ρ w vals _ _ h; cases h
  | succ n ih =>
    intro f args s v s' ρ w vals h hg hr hv
    have body : (@Option.rec Nat (fun _ => VS) .no (fun ks => @Option.rec Func (fun _ => VS) .no (fun fn => runB E (runF E lf n) lf ks fn args s) (E.fns.get f)) (E.kps.get f)) = .ok v s' →
        ((callFunc f vals).run P w = .ok (.enter f vals) w ∧ Calls P f vals w (fun e w' => ∃ u, e = .returned u ∧ Done ρ s w v s' u w')) ∨ (∃ u w', (callFunc f vals).run P w = .ok (.value u) w' ∧ Done ρ s w v s' u w') := by
      intro hr
      cases hks : E.kps.get f with
      | none => rw [hks] at hr; cases hr
      | some ks =>
        rw [hks] at hr
        simp only [] at hr
        cases hfn : E.fns.get f with
        | none => rw [hfn] at hr; cases hr
        | some fn =>
          rw [hfn] at hr
          exact .inl (runB_ok hE hk ih (hd _ ih) hit hks hfn hr h hg hv)
    replace hr : (@Option.rec Ext (fun _ => VS) (@Option.rec Nat (fun _ => VS) .no (fun ks => @Option.rec Func (fun _ => VS) .no (fun fn => runB E (runF E lf n) lf ks fn args s) (E.fns.get f)) (E.kps.get f))
      (fun x => @VS.rec (fun _ => VS) (fun v s' => .ok v s') (@Option.rec Nat (fun _ => VS) .no (fun ks => @Option.rec Func (fun _ => VS) .no (fun fn => runB E (runF E lf n) lf ks fn args s) (E.fns.get f)) (E.kps.get f)) (extF x args s)) (E.ext.get f)) = .ok v s' := hr
    cases he : E.ext.get f with
    | some x =>
      rw [he] at hr
      simp only [] at hr
      cases hxr : extF x args s with
      | ok v1 s1 =>
        rw [hxr] at hr
        cases hr
        exact hx f x he args s v s' ρ w vals h hg hxr hv
      | no =>
        rw [hxr] at hr
        exact body hr
    | none =>
      rw [he] at hr
      exact body hr

end
end Ev

set_option linter.unusedVariables false
set_option linter.unusedSimpArgs false
namespace Ev
open Go

theorem testBit_lor (a b i : Nat) : (Nat.lor a b).testBit i = (a.testBit i || b.testBit i) := Nat.testBit_or a b i
theorem testBit_one (k i : Nat) : (Nat.shiftLeft 1 k).testBit i = decide (i = k) := by
  show (1 <<< k).testBit i = _
  rw [Nat.shiftLeft_eq, Nat.one_mul, Nat.testBit_two_pow]
  simp [eq_comm]
theorem maskOf_spec (M : List Nat) (j i : Nat) : ∀ (l : List Edge) (acc : Nat), (maskOf M j l acc).testBit i = true →
    acc.testBit i = true ∨ ∃ e ∈ l, Region.binds .any e = true ∧ (e.on = i ∨ (e.on < j ∧ (M.getD (j - 1 - e.on) 0).testBit i = true)) := by
  intro l
  induction l with
  | nil => intro acc h; exact .inl h
  | cons e l ih =>
    intro acc h
    simp only [maskOf] at h
    cases hb : Region.binds .any e with
    | false =>
      rw [hb] at h
      rcases ih acc h with g | ⟨e', he, g⟩
      · exact .inl g
      · exact .inr ⟨e', by simp [he], g⟩
    | true =>
      rw [hb] at h
      simp only [] at h
      rcases ih _ h with g | ⟨e', he, g⟩
      · rw [testBit_lor, testBit_lor, testBit_one, Bool.or_eq_true, Bool.or_eq_true] at g
        rcases g with (g | g) | g
        · exact .inl g
        · exact .inr ⟨e, by simp, hb, .inl (of_decide_eq_true g).symm⟩
        · cases hle : Nat.ble (Nat.succ e.on) j with
          | false => rw [hle] at g; simp at g
          | true =>
            rw [hle] at g
            exact .inr ⟨e, by simp, hb, .inr ⟨Nat.le_of_ble_eq_true hle, g⟩⟩
      · exact .inr ⟨e', by simp [he], g⟩

theorem masksL_spec : ∀ (l : List Oper) (j : Nat) (acc : List Nat), ∃ r : List Nat, (masksL l j acc).reverse = acc.reverse ++ r ∧ r.length = l.length ∧
    ∀ i o, l[i]? = some o → r[i]? = some (maskOf ((r.take i).reverse ++ acc) (j + i) o.after.toList 0) := by
  intro l
  induction l with
  | nil => intro j acc; exact ⟨[], by simp [masksL], rfl, fun i o h => by simp at h⟩
  | cons o l ih =>
    intro j acc
    simp only [masksL, force_eq]
    obtain ⟨r, h1, h2, h3⟩ := ih (Nat.succ j) (maskOf acc j o.after.toList 0 :: acc)
    refine ⟨maskOf acc j o.after.toList 0 :: r, by rw [h1]; simp, by simp [h2], ?_⟩
    intro i o' hi
    cases i with
    | zero => simp at hi; subst hi; simp
    | succ i =>
      simp at hi
      have := h3 i o' hi
      simp only [List.getElem?_cons_succ, List.take_succ_cons, List.reverse_cons, List.append_assoc, List.singleton_append]
      rw [this, show Nat.succ j + i = j + (i + 1) by omega]

theorem masks_spec (ops : List Oper) : (masks ops).length = ops.length ∧ ∀ j o m, ops[j]? = some o → (masks ops)[j]? = some m → ∀ i, m.testBit i = true →
    ∃ e ∈ o.after.toList, Region.binds .any e = true ∧ (e.on = i ∨ (e.on < j ∧ ∃ m', (masks ops)[e.on]? = some m' ∧ m'.testBit i = true)) := by
  obtain ⟨r, h1, h2, h3⟩ := masksL_spec ops 0 []
  have hm : masks ops = r := by unfold masks; rw [h1]; simp
  rw [hm]
  refine ⟨h2, fun j o m ho hj i hi => ?_⟩
  have := h3 j o ho
  rw [hj] at this
  cases this
  rcases maskOf_spec _ _ _ _ _ hi with g | ⟨e, he, hb, g⟩
  · simp at g
  · refine ⟨e, he, hb, ?_⟩
    rcases g with g | ⟨g1, g2⟩
    · exact .inl g
    · right
      rw [Nat.zero_add] at g1 g2
      refine ⟨g1, ?_⟩
      rw [List.append_nil, List.getD_eq_getElem?_getD] at g2
      have hjl : j < r.length := (List.getElem?_eq_some_iff.1 hj).1
      have hlen : (r.take j).length = j := by simp; omega
      rw [List.getElem?_reverse (by rw [hlen]; omega), hlen, List.getElem?_take, if_pos (by omega), show j - 1 - (j - 1 - e.on) = e.on by omega] at g2
      have he' : e.on < r.length := by omega
      rw [List.getElem?_eq_getElem he'] at g2 ⊢
      exact ⟨_, rfl, g2⟩

theorem apartL_spec (ops : List Oper) (o : Oper) (m : Nat) : ∀ (l : List Oper) (i : Nat), apartL ops o m l i = true → ∀ k x, l[k]? = some x → m.testBit (i + k) = true ∨ apartT ops x o = true := by
  intro l
  induction l with
  | nil => intro i _ k x h; simp at h
  | cons y l ih =>
    intro i h k x hx
    simp only [apartL] at h
    cases hb : or (tbit m i) (apartT ops y o) with
    | false => rw [hb] at h; cases h
    | true =>
      rw [hb] at h
      cases k with
      | zero =>
        simp at hx; subst hx
        rw [Bool.or_eq_true, tbit_eq] at hb
        simpa using hb
      | succ k =>
        simp at hx
        have := ih (Nat.succ i) h k x hx
        rwa [show Nat.succ i + k = i + (k + 1) by omega] at this

theorem apartA_spec (ops : List Oper) : ∀ (l seen : List Oper) (j : Nat) (ms : List Nat), seen.length = j → apartA ops seen j l ms = true →
    ∀ k o m, l[k]? = some o → ms[k]? = some m → (∀ i, m.testBit i = true → i < j + k) ∧ ∀ i x, (seen ++ l)[i]? = some x → i < j + k → m.testBit i = true ∨ apartT ops x o = true := by
  intro l
  induction l with
  | nil => intro seen j ms _ _ k o m h; simp at h
  | cons y l ih =>
    intro seen j ms hs h k o m ho hm
    cases ms with
    | nil => simp at hm
    | cons m0 ms =>
      simp only [apartA] at h
      cases hb : and (Nat.beq (Nat.shiftRight m0 j) 0) (apartL ops y m0 seen 0) with
      | false => rw [hb] at h; cases h
      | true =>
        rw [hb] at h
        rw [Bool.and_eq_true] at hb
        cases k with
        | zero =>
          simp at ho hm; subst ho hm
          refine ⟨fun i hi => ?_, fun i x hx hi => ?_⟩
          · have hz : m0 >>> j = 0 := Nat.eq_of_beq_eq_true hb.1
            rcases Nat.lt_or_ge i (j + 0) with g | g
            · exact g
            · have : (m0 >>> j).testBit (i - j) = m0.testBit i := by rw [Nat.testBit_shiftRight]; congr 1; omega
              rw [hz, hi] at this; simp at this
          · rw [List.getElem?_append_left (by omega)] at hx
            have := apartL_spec ops y m0 seen 0 hb.2 i x hx
            simpa using this
        | succ k =>
          simp at ho hm
          have := ih (seen ++ [y]) (Nat.succ j) ms (by simp [hs]) h k o m ho hm
          rw [show Nat.succ j + k = j + (k + 1) by omega] at this
          refine ⟨this.1, fun i x hx hi => this.2 i x (by simpa using hx) hi⟩

theorem opsOk_spec {ops : List Oper} (h : opsOk ops = true) {j : Nat} {o : Oper} {m : Nat} (ho : ops[j]? = some o) (hm : (masks ops)[j]? = some m) :
    (∀ i, m.testBit i = true → i < j) ∧ ∀ i x, ops[i]? = some x → i < j → m.testBit i = true ∨ apartT ops x o = true := by
  have := apartA_spec ops ops [] 0 (masks ops) rfl h j o m ho hm
  simpa using this

theorem Str.eq_true {s t : Str} (h : s.eq t = true) : s = t := by
  obtain ⟨a, b⟩ := s
  obtain ⟨c, d⟩ := t
  have h : and (Nat.beq a c) (Nat.beq b d) = true := h
  rw [Bool.and_eq_true] at h
  rw [Nat.eq_of_beq_eq_true h.1, Nat.eq_of_beq_eq_true h.2]
mutual
theorem D.same_eq : ∀ (x y : D), D.same x y = true → x = y
  | .bool a, y, h => by cases y <;> simp only [D.same, Bool.false_eq_true] at h; rw [eq_of_beq h]
  | .int k n, y, h => by
    cases y <;> simp only [D.same, Bool.false_eq_true] at h
    rw [Bool.and_eq_true, kEq_iff, iEq_eq] at h
    rw [h.1, of_decide_eq_true h.2]
  | .str s, y, h => by cases y <;> simp only [D.same, Bool.false_eq_true] at h; rw [Str.eq_true h]
  | .nilp, y, h => by cases y <;> simp only [D.same, Bool.false_eq_true] at h; rfl
  | .nils, y, h => by cases y <;> simp only [D.same, Bool.false_eq_true] at h; rfl
  | .nilm, y, h => by cases y <;> simp only [D.same, Bool.false_eq_true] at h; rfl
  | .nilf, y, h => by cases y <;> simp only [D.same, Bool.false_eq_true] at h; rfl
  | .nili, y, h => by cases y <;> simp only [D.same, Bool.false_eq_true] at h; rfl
  | .fn f, y, h => by cases y <;> simp only [D.same, Bool.false_eq_true] at h; rw [Nat.eq_of_beq_eq_true h]
  | .ifc t d, y, h => by
    cases y <;> simp only [D.same, Bool.false_eq_true] at h
    rw [Bool.and_eq_true] at h
    rw [Nat.eq_of_beq_eq_true h.1, D.same_eq d _ h.2]
  | .sl z l, y, h => by
    cases y <;> simp only [D.same, Bool.false_eq_true] at h
    rw [Bool.and_eq_true] at h
    rw [Nat.eq_of_beq_eq_true h.1, D.sameLL_eq l _ h.2]
  | .pt l o, y, h => by
    cases y <;> simp only [D.same, Bool.false_eq_true] at h
    rw [Bool.and_eq_true] at h
    rw [Nat.eq_of_beq_eq_true h.1, D.sameL_eq l _ h.2]
theorem D.sameL_eq : ∀ (l r : List D), D.sameL l r = true → l = r
  | [], r, h => by cases r <;> simp only [D.sameL, Bool.false_eq_true] at h; rfl
  | x :: l, r, h => by
    cases r <;> simp only [D.sameL, Bool.false_eq_true] at h
    rw [Bool.and_eq_true] at h
    rw [D.same_eq x _ h.1, D.sameL_eq l _ h.2]
theorem D.sameLL_eq : ∀ (l r : List (List D)), D.sameLL l r = true → l = r
  | [], r, h => by cases r <;> simp only [D.sameLL, Bool.false_eq_true] at h; rfl
  | x :: l, r, h => by
    cases r <;> simp only [D.sameLL, Bool.false_eq_true] at h
    rw [Bool.and_eq_true] at h
    rw [D.sameL_eq x _ h.1, D.sameLL_eq l _ h.2]
end
theorem C.same_eq : ∀ {x y : C}, C.same x y = true → x = y := by
  intro x
  induction x with
  | ifc t c ih =>
    intro y h
    cases y <;> simp only [C.same, Bool.false_eq_true] at h
    rw [Bool.and_eq_true] at h
    rw [Nat.eq_of_beq_eq_true h.1, ih h.2]
  | str s =>
    intro y h
    cases y <;> simp only [C.same, Bool.false_eq_true] at h
    rw [Str.eq_true h]
  | sl b o n c z =>
    intro y h
    cases y <;> simp only [C.same, Bool.false_eq_true] at h
    rename_i b' o' n' c' z'
    rw [Bool.and_eq_true, Bool.and_eq_true, Bool.and_eq_true, Bool.and_eq_true] at h
    obtain ⟨⟨h1, h2⟩, ⟨h3, h4⟩, h5⟩ := h
    rw [Nat.eq_of_beq_eq_true h1, Nat.eq_of_beq_eq_true h2, Nat.eq_of_beq_eq_true h3, Nat.eq_of_beq_eq_true h4]
    cases c <;> cases c' <;> simp only [Bool.false_eq_true] at h5
    · rfl
    · rw [Nat.eq_of_beq_eq_true h5]
  | int k n =>
    intro y h
    cases y <;> simp only [C.same, Bool.false_eq_true] at h
    rw [Bool.and_eq_true, kEq_iff, iEq_eq] at h
    rw [h.1, of_decide_eq_true h.2]
  | ptr b o =>
    intro y h
    cases y <;> simp only [C.same, Bool.false_eq_true] at h
    rw [Bool.and_eq_true] at h
    rw [Nat.eq_of_beq_eq_true h.1, Nat.eq_of_beq_eq_true h.2]
  | bool b =>
    intro y h
    cases y <;> simp only [C.same, Bool.false_eq_true] at h
    rw [eq_of_beq h]
  | map r =>
    intro y h
    cases y <;> simp only [C.same, Bool.false_eq_true] at h
    rw [Nat.eq_of_beq_eq_true h]
  | ife r =>
    intro y h
    cases y <;> simp only [C.same, Bool.false_eq_true] at h
    rw [Nat.eq_of_beq_eq_true h]
  | fn f l =>
    intro y h
    cases l with
    | nil =>
      cases y <;> try (simp only [C.same, Bool.false_eq_true] at h; done)
      rename_i g l'
      cases l' with
      | nil => simp only [C.same] at h; rw [Nat.eq_of_beq_eq_true h]
      | cons _ _ => simp only [C.same, Bool.false_eq_true] at h
    | cons _ _ => cases y <;> simp only [C.same, Bool.false_eq_true] at h
  | dat z l =>
    intro y h
    cases y <;> simp only [C.same, Bool.false_eq_true] at h
    rw [Bool.and_eq_true] at h
    rw [Nat.eq_of_beq_eq_true h.1, D.sameLL_eq l _ h.2]
  | dp l o =>
    intro y h
    cases y <;> simp only [C.same, Bool.false_eq_true] at h
    rw [Bool.and_eq_true] at h
    rw [Nat.eq_of_beq_eq_true h.1, D.sameL_eq l _ h.2]
  | _ => intro y h; cases y <;> simp only [C.same, Bool.false_eq_true] at h <;> rfl
theorem sameL_eq : ∀ {l r : List C}, sameL l r = true → l = r
  | [], [], _ => rfl
  | [], _ :: _, h => by simp [sameL] at h
  | _ :: _, [], h => by simp [sameL] at h
  | x :: l, y :: r, h => by
    simp only [sameL] at h
    cases hx : C.same x y with
    | false => rw [hx] at h; cases h
    | true => rw [hx] at h; rw [C.same_eq hx, sameL_eq h]
theorem W.same_eq {x y : W} (h : W.same x y = true) : x = y := by
  cases x <;> cases y <;> simp only [W.same, Bool.false_eq_true] at h
  · rw [C.same_eq h]
  · rw [sameL_eq h]
theorem sameWL_eq : ∀ {l r : List W}, sameWL l r = true → l = r
  | [], [], _ => rfl
  | [], _ :: _, h => by simp [sameWL] at h
  | _ :: _, [], h => by simp [sameWL] at h
  | x :: l, y :: r, h => by
    simp only [sameWL] at h
    cases hx : W.same x y with
    | false => rw [hx] at h; cases h
    | true => rw [hx] at h; rw [W.same_eq hx, sameWL_eq h]
theorem V.same_eq {x y : V} (h : V.same x y = true) : x = y := by
  cases x <;> cases y <;> simp only [V.same, Bool.false_eq_true] at h
  · rw [W.same_eq h]
  · rw [sameWL_eq h]

inductive Kd (E : Env) (call : CallF) (ks : Nat) (ops : List Oper) (o : Oper) (j m base : Nat) (g g' : Rg) (v : V) : Prop where
  | skip (hw : wanted g.a ops o = some false) (hv : v = skipV) (ha : g'.a = putA ks g.a o.dst v) (hs : g'.s = g.s) (hg : g'.gs = g.gs) (hr : g'.rs = g.rs) (he : g'.eff = g.eff)
  | r (hw : wanted g.a ops o = some true) (rd : Bool) (f : Env → A → Look → Option V) (hk : kOf E (opK o.op) = .r rd f) (hf : f E g.a g.s.h.get = some v) (ha : g'.a = putA ks g.a o.dst v) (hs : g'.s = g.s)
      (hg : g'.gs = g.gs) (he : g'.eff = g.eff) (hr : (rd = false ∧ g'.rs = g.rs) ∨ (rd = true ∧ backs E f g.a v m g.gs = true ∧ g'.rs = ⟨j, f, g.a, v⟩ :: g.rs))
  | n (hw : wanted g.a ops o = some true) (f : Env → A → Nat → Option (V × Blk)) (b : Blk) (hk : kOf E (opK o.op) = .n f) (hf : f E g.a (base + j) = some (v, b)) (ha : g'.a = putA ks g.a o.dst v)
      (hs : g'.s = ⟨g.s.h.set (base + j) b, g.s.nx⟩) (hg : g'.gs = g.gs) (hr : g'.rs = g.rs) (he : g'.eff = Nat.lor g.eff (Nat.shiftLeft 1 j))
  | a (hw : wanted g.a ops o = some true) (f : Env → CallF → A → St → VS) (hk : kOf E (opK o.op) = .a f) (hf : f E call g.a g.s = .ok v g'.s) (ha : g'.a = putA ks g.a o.dst v)
      (hm : Nat.land g.eff m = g.eff) (hfo : fores E g'.s m g.rs = true) (hg : g'.gs = (j, g.s) :: g.gs) (hr : g'.rs = g.rs) (he : g'.eff = Nat.lor g.eff (Nat.shiftLeft 1 j))

theorem drawOp_kd {E : Env} {call : CallF} {ks : Nat} {ops : List Oper} {o : Oper} {j m base : Nat} {g g' : Rg} (h : drawOp E call ks ops o j m base g = some g') : ∃ v, Kd E call ks ops o j m base g g' v := by
  obtain ⟨a, s, gs, rs, eff⟩ := g
  unfold drawOp at h
  cases hw : wanted a ops o with
  | none => rw [hw] at h; cases h
  | some b =>
    rw [hw] at h
    cases b with
    | false =>
      simp only [drawSkip, Option.some.injEq] at h
      subst h
      exact ⟨skipV, .skip hw rfl rfl rfl rfl rfl rfl⟩
    | true =>
      simp only [drawK] at h
      cases hk : kOf E (opK o.op) with
      | no => rw [hk] at h; cases h
      | cv _ _ _ => rw [hk] at h; cases h
      | r rd f =>
        rw [hk] at h
        simp only [drawR] at h
        cases hf : f E a s.h.get with
        | none => rw [hf] at h; cases h
        | some v =>
          rw [hf] at h
          cases rd with
          | false =>
            simp only [Option.some.injEq] at h
            subst h
            exact ⟨v, .r hw false f hk hf rfl rfl rfl rfl (.inl ⟨rfl, rfl⟩)⟩
          | true =>
            simp only [] at h
            cases hb : backs E f a v m gs with
            | false => rw [hb] at h; cases h
            | true =>
              rw [hb] at h
              simp only [Option.some.injEq] at h
              subst h
              exact ⟨v, .r hw true f hk hf rfl rfl rfl rfl (.inr ⟨rfl, hb, rfl⟩)⟩
      | n f =>
        rw [hk] at h
        obtain ⟨hh, nx⟩ := s
        simp only [drawN] at h
        cases hf : f E a (Nat.add base j) with
        | none => rw [hf] at h; cases h
        | some vb =>
          obtain ⟨v, b⟩ := vb
          rw [hf] at h
          simp only [Option.some.injEq] at h
          subst h
          exact ⟨v, .n hw f b hk hf rfl rfl rfl rfl rfl⟩
      | a f =>
        rw [hk] at h
        simp only [drawA] at h
        cases hm : Nat.beq (Nat.land eff m) eff with
        | false => rw [hm] at h; cases h
        | true =>
          rw [hm] at h
          simp only [] at h
          cases hf : f E call a s with
          | no => rw [hf] at h; cases h
          | ok v s' =>
            rw [hf] at h
            simp only [] at h
            cases hfo : fores E s' m rs with
            | false => rw [hfo] at h; cases h
            | true =>
              rw [hfo] at h
              simp only [Option.some.injEq] at h
              subst h
              exact ⟨v, .a hw f hk hf rfl (Nat.eq_of_beq_eq_true hm) hfo rfl rfl rfl⟩

theorem drawOps_tr {E : Env} {call : CallF} {ks : Nat} {ops : List Oper} {base : Nat} : ∀ (l : List Oper) (ms : List Nat) (j : Nat) (g g' : Rg), drawOps E call ks ops base l ms j g = some g' →
    ∃ (tr : Nat → Rg) (vl : Nat → V), tr j = g ∧ tr (j + l.length) = g' ∧ ∀ i o, l[i]? = some o → ∃ m, ms[i]? = some m ∧ Kd E call ks ops o (j + i) m base (tr (j + i)) (tr (j + i + 1)) (vl (j + i)) := by
  intro l
  induction l with
  | nil => intro ms j g g' h; cases h; exact ⟨fun _ => g, fun _ => .un, rfl, rfl, fun i o h => by simp at h⟩
  | cons o l ih =>
    intro ms j g g' h
    cases ms with
    | nil => cases h
    | cons m ms =>
      simp only [drawOps] at h
      cases hd : drawOp E call ks ops o j m base g with
      | none => rw [hd] at h; cases h
      | some g1 =>
        rw [hd] at h
        obtain ⟨v, hv⟩ := drawOp_kd hd
        obtain ⟨tr, vl, h1, h2, h3⟩ := ih ms (Nat.succ j) g1 g' h
        refine ⟨fun i => if i ≤ j then g else tr i, fun i => if i ≤ j then v else vl i, by simp, ?_, ?_⟩
        · show (if j + (l.length + 1) ≤ j then g else tr (j + (l.length + 1))) = g'
          rw [if_neg (by omega), ← h2]; congr 1; omega
        · intro i o' hi
          cases i with
          | zero =>
            simp at hi; subst hi
            refine ⟨m, rfl, ?_⟩
            show Kd E call ks ops o (j + 0) m base (if j + 0 ≤ j then g else tr (j + 0)) (if j + 0 + 1 ≤ j then g else tr (j + 0 + 1)) (if j + 0 ≤ j then v else vl (j + 0))
            rw [if_pos (by omega), if_neg (by omega), if_pos (by omega), show j + 0 + 1 = Nat.succ j by omega, h1]
            exact hv
          | succ i =>
            simp at hi
            obtain ⟨m', q1, q2⟩ := h3 i o' hi
            refine ⟨m', by simpa using q1, ?_⟩
            show Kd E call ks ops o' (j + (i + 1)) m' base (if j + (i + 1) ≤ j then g else tr (j + (i + 1))) (if j + (i + 1) + 1 ≤ j then g else tr (j + (i + 1) + 1)) (if j + (i + 1) ≤ j then v else vl (j + (i + 1)))
            rw [if_neg (by omega), if_neg (by omega), if_neg (by omega)]
            rw [show Nat.succ j + i = j + (i + 1) by omega] at q2
            exact q2

end Ev

set_option linter.unusedVariables false
set_option linter.unusedSimpArgs false
namespace Ev
open Go

theorem tmpIn_iff (t : Nat) : ∀ l : List Operand, tmpIn t l = true ↔ Operand.tmp t ∈ l := by
  intro l
  induction l with
  | nil => simp [tmpIn]
  | cons x l ih =>
    cases x <;> simp only [tmpIn, List.mem_cons] <;> try (simp [ih]; done)
    rename_i u
    cases hb : Nat.beq t u with
    | true => simp [Nat.eq_of_beq_eq_true hb]
    | false =>
      have : t ≠ u := by intro e; subst e; simp at hb
      simp [ih, this]
theorem sameDst_iff (d : Nat) (x : Option Nat) : sameDst d x = true ↔ x = some d := by
  cases x with
  | none => simp [sameDst]
  | some e =>
    simp only [sameDst, Option.some.injEq]
    constructor
    · intro h; exact (Nat.eq_of_beq_eq_true h).symm
    · intro h; subst h; exact Nat.beq_refl _

def Looks (ops : List Oper) (o : Oper) (t : Nat) : Prop := Operand.tmp t ∈ o.op.operands.toList ∨ ∃ g p, o.guard = some g ∧ ops[g.1]? = some p ∧ p.dst = some t
theorem looksT_of {ops : List Oper} {o : Oper} {t : Nat} (h : Looks ops o t) : looksT ops t o = true := by
  unfold looksT
  rcases h with h | ⟨g, p, h1, h2, h3⟩
  · rw [(tmpIn_iff t _).2 h]; rfl
  · simp only [h1, h2, (sameDst_iff t p.dst).2 h3, Bool.or_true]
theorem apart_looks {ops : List Oper} {x o : Oper} (h : apartT ops x o = true) : (∀ d, x.dst = some d → ¬ Looks ops o d ∧ o.dst ≠ some d) ∧ (∀ d, o.dst = some d → ¬ Looks ops x d) := by
  unfold apartT at h
  rw [Bool.and_eq_true] at h
  refine ⟨fun d hd => ?_, fun d hd hl => ?_⟩
  · have h1 := h.1
    rw [hd] at h1
    simp only [Bool.not_eq_true'] at h1
    unfold usesT at h1
    refine ⟨fun hl => ?_, fun he => ?_⟩
    · have := looksT_of hl
      unfold looksT at this
      simp only [Bool.or_eq_true, Bool.or_eq_false_iff] at h1 this
      rcases this with g | g
      · rw [h1.1.2] at g; cases g
      · rw [h1.2] at g; cases g
    · simp only [Bool.or_eq_false_iff] at h1
      rw [(sameDst_iff d o.dst).2 he] at h1
      exact absurd h1.1.1 (by simp)
  · have h2 := h.2
    rw [hd] at h2
    simp only [Bool.not_eq_true'] at h2
    rw [looksT_of hl] at h2; cases h2

def dstAt (ops : List Oper) (k : Nat) : Option Nat := (ops[k]?).bind (·.dst)
noncomputable def lastV (ops : List Oper) (a0 : A) (vl : Nat → V) (S : Nat → Bool) : Nat → Nat → V
  | 0, t => a0.get t
  | k + 1, t => if S k = true ∧ dstAt ops k = some t then vl k else lastV ops a0 vl S k t
theorem lastV_eq {ops : List Oper} {a0 : A} {vl : Nat → V} {S : Nat → Bool} {t j : Nat} (h1 : ∀ i, i < j → dstAt ops i = some t → S i = true) :
    ∀ k, j ≤ k → (∀ i, j ≤ i → i < k → dstAt ops i = some t → S i = false) → lastV ops a0 vl S k t = lastV ops a0 vl (fun _ => true) j t := by
  have low : ∀ k, k ≤ j → lastV ops a0 vl S k t = lastV ops a0 vl (fun _ => true) k t := by
    intro k
    induction k with
    | zero => intro _; rfl
    | succ k ih =>
      intro hk
      simp only [lastV]
      rw [ih (by omega)]
      by_cases hd : dstAt ops k = some t
      · rw [if_pos ⟨h1 k (by omega) hd, hd⟩, if_pos ⟨trivial, hd⟩]
      · rw [if_neg (fun h => hd h.2), if_neg (fun h => hd h.2)]
  intro k
  induction k with
  | zero => intro hj _; exact low 0 (by omega) ▸ (by have : j = 0 := by omega
                                                     subst this; rfl)
  | succ k ih =>
    intro hj h2
    by_cases hjk : j = k + 1
    · subst hjk; exact low (k + 1) (Nat.le_refl _)
    · simp only [lastV]
      rw [if_neg, ih (by omega) (fun i hi hk hd => h2 i hi (by omega) hd)]
      rintro ⟨hs, hd⟩
      rw [h2 k (by omega) (by omega) hd] at hs; cases hs
theorem lastV_same {ops : List Oper} {a0 : A} {vl : Nat → V} {S S' : Nat → Bool} {t : Nat} : ∀ k, (∀ i, i < k → dstAt ops i = some t → S' i = S i) → lastV ops a0 vl S' k t = lastV ops a0 vl S k t := by
  intro k
  induction k with
  | zero => intro _; rfl
  | succ k ih =>
    intro h
    simp only [lastV]
    rw [ih (fun i hi hd => h i (by omega) hd)]
    by_cases hd : dstAt ops k = some t
    · rw [h k (by omega) hd]
    · rw [if_neg (fun h => hd h.2), if_neg (fun h => hd h.2)]
theorem lastV_at {ops : List Oper} {a0 : A} {vl : Nat → V} {S : Nat → Bool} {t j : Nat} (hd : dstAt ops j = some t) (hs : S j = true) : ∀ k, j < k → (∀ i, j < i → i < k → dstAt ops i = some t → S i = false) → lastV ops a0 vl S k t = vl j := by
  intro k
  induction k with
  | zero => intro h; omega
  | succ k ih =>
    intro hj h2
    simp only [lastV]
    by_cases e : k = j
    · subst e; rw [if_pos ⟨hs, hd⟩]
    · rw [if_neg, ih (by omega) (fun i hi hk hd => h2 i hi (by omega) hd)]
      rintro ⟨hs', hd'⟩
      rw [h2 k (by omega) (by omega) hd'] at hs'; cases hs'

theorem wanted_ok' {ρ : Mp} {a : A} {act : Act} {ops : List Oper} {o : Oper} (ht : ∀ t, Looks ops o t → VRel ρ (a.get t) (act.tmps.getD t undef)) {b : Bool} (h : wantedG a ops o.guard = some b) :
    Region.wanted o (yielded ops.toArray act.tmps) = b := by
  unfold Region.wanted
  cases hg : o.guard with
  | none => rw [hg] at h; cases h; rfl
  | some g =>
    obtain ⟨j, want⟩ := g
    rw [hg] at h
    replace h : guardOk a ops j want = some b := h
    unfold guardOk at h
    simp only [yielded, List.getElem?_toArray]
    cases hj : ops[j]? with
    | none => rw [hj] at h; cases h; cases want <;> rfl
    | some p =>
      rw [hj] at h
      simp only [Option.bind_some] at h ⊢
      cases hd : p.dst with
      | none => rw [hd] at h; cases h; cases want <;> rfl
      | some d =>
        rw [hd] at h
        simp only [Option.bind_some] at h ⊢
        have hv := ht d (.inr ⟨_, p, hg, hj, hd⟩)
        rw [Array.getD_eq_getD_getElem?] at hv
        have key := boolIs_ok hv h
        cases hx : act.tmps[d]? with
        | none => rw [hx] at key; exact key
        | some u =>
          rw [hx] at key
          simp only [Option.getD_some] at key
          rw [← key]
          cases u <;> rfl

structure Tr (E : Env) (call : CallF) (ks : Nat) (ops : List Oper) (base n : Nat) (tr : Nat → Rg) (vl : Nat → V) : Prop where
  ok : opsOk ops = true
  nl : n ≤ ops.length
  kd : ∀ j o, j < n → ops[j]? = some o → ∃ m, (masks ops)[j]? = some m ∧ Kd E call ks ops o j m base (tr j) (tr (j + 1)) (vl j)
  gs0 : (tr 0).gs = []
  rs0 : (tr 0).rs = []

section
variable {E : Env} {call : CallF} {ks : Nat} {ops : List Oper} {base n : Nat} {tr : Nat → Rg} {vl : Nat → V}

def IsA (E : Env) (ops : List Oper) (n : Nat) (tr : Nat → Rg) (j : Nat) : Prop := j < n ∧ ∃ o f, ops[j]? = some o ∧ wanted (tr j).a ops o = some true ∧ kOf E (opK o.op) = .a f
def IsN (E : Env) (ops : List Oper) (n : Nat) (tr : Nat → Rg) (base : Nat) (j : Nat) (b : Blk) : Prop := j < n ∧ ∃ o f v, ops[j]? = some o ∧ wanted (tr j).a ops o = some true ∧ kOf E (opK o.op) = .n f ∧ f E (tr j).a (base + j) = some (v, b)

theorem Tr.get (h : Tr E call ks ops base n tr vl) {j : Nat} (hj : j < n) : ∃ o m, ops[j]? = some o ∧ (masks ops)[j]? = some m ∧ Kd E call ks ops o j m base (tr j) (tr (j + 1)) (vl j) := by
  have : ops[j]? = some (ops[j]'(Nat.lt_of_lt_of_le hj h.nl)) := List.getElem?_eq_getElem (Nat.lt_of_lt_of_le hj h.nl)
  obtain ⟨m, h1, h2⟩ := h.kd j _ hj this
  exact ⟨_, m, this, h1, h2⟩

theorem Kd.ha {o : Oper} {j m : Nat} {g g' : Rg} {v : V} (h : Kd E call ks ops o j m base g g' v) : g'.a = putA ks g.a o.dst v := by cases h <;> assumption

theorem Tr.temps (h : Tr E call ks ops base n tr vl) : ∀ j, j ≤ n → ∀ t, (tr j).a.get t = lastV ops (tr 0).a vl (fun _ => true) j t := by
  intro j
  induction j with
  | zero => intro _ t; rfl
  | succ j ih =>
    intro hj t
    obtain ⟨o, m, h1, _, h3⟩ := h.get (j := j) (by omega)
    rw [h3.ha]
    simp only [lastV, dstAt, h1, Option.bind_some]
    cases hd : o.dst with
    | none => rw [if_neg (by simp)]; exact ih (by omega) t
    | some d =>
      show (A.put d (vl j) (tbit ks d) (tr j).a).get t = _
      rw [A.get_put]
      by_cases e : d = t
      · subst e; rw [if_pos rfl, if_pos ⟨trivial, rfl⟩]
      · rw [if_neg e, if_neg (by simp [e])]; exact ih (by omega) t

theorem Tr.eff (h : Tr E call ks ops base n tr vl) : ∀ j, j ≤ n → ∀ i, i < j → (IsA E ops n tr i ∨ ∃ b, IsN E ops n tr base i b) → (tr j).eff.testBit i = true := by
  intro j
  induction j with
  | zero => intro _ i hi; omega
  | succ j ih =>
    intro hj i hi hk
    obtain ⟨o, m, h1, _, h3⟩ := h.get (j := j) (by omega)
    have old : i < j → (tr j).eff.testBit i = true := fun hij => ih (by omega) i hij hk
    by_cases hij : i = j
    · subst hij
      cases h3 with
      | skip hw _ _ _ _ _ _ =>
        rcases hk with ⟨_, o', f', q1, q2, q3⟩ | ⟨b, _, o', f', v', q1, q2, q3, _⟩ <;> (rw [h1] at q1; cases q1; rw [hw] at q2; cases q2)
      | r hw rd f hk' _ _ _ _ _ _ =>
        rcases hk with ⟨_, o', f', q1, q2, q3⟩ | ⟨b, _, o', f', v', q1, q2, q3, _⟩ <;> (rw [h1] at q1; cases q1; rw [hk'] at q3; cases q3)
      | n _ _ _ _ _ _ _ _ _ he => rw [he, testBit_lor, testBit_one]; simp
      | a _ _ _ _ _ _ _ _ _ he => rw [he, testBit_lor, testBit_one]; simp
    · have := old (by omega)
      cases h3 with
      | skip _ _ _ _ _ _ he => rw [he]; exact this
      | r _ _ _ _ _ _ _ _ he _ => rw [he]; exact this
      | n _ _ _ _ _ _ _ _ _ he => rw [he, testBit_lor, this]; rfl
      | a _ _ _ _ _ _ _ _ _ he => rw [he, testBit_lor, this]; rfl

theorem Tr.gs (h : Tr E call ks ops base n tr vl) : ∀ j, j ≤ n → ∀ i, i < j → IsA E ops n tr i → (i, (tr i).s) ∈ (tr j).gs := by
  intro j
  induction j with
  | zero => intro _ i hi; omega
  | succ j ih =>
    intro hj i hi hk
    obtain ⟨o, m, h1, _, h3⟩ := h.get (j := j) (by omega)
    by_cases hij : i = j
    · subst hij
      obtain ⟨_, o', f', q1, q2, q3⟩ := hk
      rw [h1] at q1; cases q1
      cases h3 with
      | skip hw _ _ _ _ _ _ => rw [hw] at q2; cases q2
      | r hw rd f hk' _ _ _ _ _ _ => rw [hk'] at q3; cases q3
      | n _ _ _ hk' _ _ _ _ _ _ => rw [hk'] at q3; cases q3
      | a _ _ _ _ _ _ _ hg _ _ => rw [hg]; simp
    · have := ih (by omega) i (by omega) hk
      cases h3 with
      | skip _ _ _ _ hg _ _ => rw [hg]; exact this
      | r _ _ _ _ _ _ _ hg _ _ => rw [hg]; exact this
      | n _ _ _ _ _ _ _ hg _ _ => rw [hg]; exact this
      | a _ _ _ _ _ _ _ hg _ _ => rw [hg]; exact List.mem_cons_of_mem _ this

theorem Tr.rs (h : Tr E call ks ops base n tr vl) : ∀ j, j ≤ n → ∀ i, i < j → ∀ o f, ops[i]? = some o → wanted (tr i).a ops o = some true → kOf E (opK o.op) = .r true f → (⟨i, f, (tr i).a, vl i⟩ : Rd) ∈ (tr j).rs := by
  intro j
  induction j with
  | zero => intro _ i hi; omega
  | succ j ih =>
    intro hj i hi o' f' q1 q2 q3
    obtain ⟨o, m, h1, _, h3⟩ := h.get (j := j) (by omega)
    by_cases hij : i = j
    · subst hij
      rw [h1] at q1; cases q1
      cases h3 with
      | skip hw _ _ _ _ _ _ => rw [hw] at q2; cases q2
      | r hw rd f hk' _ _ _ _ _ hr =>
        rw [hk'] at q3; cases q3
        rcases hr with ⟨hr, _⟩ | ⟨_, _, hr⟩
        · cases hr
        · rw [hr]; simp
      | n _ _ _ hk' _ _ _ _ _ _ => rw [hk'] at q3; cases q3
      | a _ _ hk' _ _ _ _ _ _ _ => rw [hk'] at q3; cases q3
    · have := ih (by omega) i (by omega) o' f' q1 q2 q3
      cases h3 with
      | skip _ _ _ _ _ hr _ => rw [hr]; exact this
      | r _ _ _ _ _ _ _ _ _ hr =>
        rcases hr with ⟨_, hr⟩ | ⟨_, _, hr⟩
        · rw [hr]; exact this
        · rw [hr]; exact List.mem_cons_of_mem _ this
      | n _ _ _ _ _ _ _ _ hr _ => rw [hr]; exact this
      | a _ _ _ _ _ _ _ _ hr _ => rw [hr]; exact this

theorem Tr.between (h : Tr E call ks ops base n tr vl) {q : Nat} : ∀ j, q ≤ j → j ≤ n → (∀ i, q ≤ i → i < j → ¬ IsA E ops n tr i) →
    (tr j).s.nx = (tr q).s.nx ∧ (∀ x b, (tr j).s.h.get x = some b → (tr q).s.h.get x = some b ∨ ∃ i, q ≤ i ∧ i < j ∧ x = base + i ∧ IsN E ops n tr base i b) := by
  intro j
  induction j with
  | zero => intro hq _ _; have : q = 0 := by omega
            subst this; exact ⟨rfl, fun x b hb => .inl hb⟩
  | succ j ih =>
    intro hq hj hno
    by_cases e : q = j + 1
    · subst e; exact ⟨rfl, fun x b hb => .inl hb⟩
    · obtain ⟨h1, h2⟩ := ih (by omega) (by omega) (fun i a b => hno i a (by omega))
      obtain ⟨o, m, g1, _, g3⟩ := h.get (j := j) (by omega)
      have keep : (tr (j + 1)).s = (tr j).s → (tr (j + 1)).s.nx = (tr q).s.nx ∧ (∀ x b, (tr (j + 1)).s.h.get x = some b → (tr q).s.h.get x = some b ∨ ∃ i, q ≤ i ∧ i < j + 1 ∧ x = base + i ∧ IsN E ops n tr base i b) := by
        intro hs
        rw [hs]
        refine ⟨h1, fun x b hb => ?_⟩
        rcases h2 x b hb with g | ⟨i, a1, a2, a3, a4⟩
        · exact .inl g
        · exact .inr ⟨i, a1, by omega, a3, a4⟩
      cases g3 with
      | skip _ _ _ hs _ _ _ => exact keep hs
      | r _ _ _ _ _ _ hs _ _ _ => exact keep hs
      | a hw f hk _ _ _ _ _ _ _ => exact absurd ⟨by omega, o, f, g1, hw, hk⟩ (hno j (by omega) (by omega))
      | n hw f b0 hk hf _ hs _ _ _ =>
        rw [hs]
        refine ⟨h1, fun x b hb => ?_⟩
        simp only [T.get_set] at hb
        split at hb
        · rename_i e2
          cases hb
          exact .inr ⟨j, by omega, by omega, e2, by omega, o, f, _, g1, hw, hk, hf⟩
        · rcases h2 x b hb with g | ⟨i, a1, a2, a3, a4⟩
          · exact .inl g
          · exact .inr ⟨i, a1, by omega, a3, a4⟩

end
end Ev

set_option linter.unusedVariables false
set_option linter.unusedSimpArgs false
namespace Ev
open Go

theorem backs_spec {E : Env} {f : Env → A → Look → Option V} {a : A} {v : V} {m : Nat} : ∀ (l : List (Nat × St)), backs E f a v m l = true → ∀ i s, (i, s) ∈ l → m.testBit i = false → f E a s.h.get = some v := by
  intro l
  induction l with
  | nil => intro _ i s h; simp at h
  | cons g l ih =>
    intro h i s hm hb
    simp only [backs] at h
    cases ht : tbit m g.1 with
    | true =>
      rw [ht] at h
      rcases List.mem_cons.1 hm with e | hm
      · subst e; rw [tbit_eq, hb] at ht; cases ht
      · exact ih (show backs E f a v m l = true from h) i s hm hb
    | false =>
      rw [ht] at h
      cases ha : again E f a g.2 v with
      | false => rw [ha] at h; cases h
      | true =>
        rw [ha] at h
        rcases List.mem_cons.1 hm with e | hm
        · subst e
          unfold again at ha
          cases hf : f E a s.h.get with
          | none => simp only [hf] at ha; cases ha
          | some u => simp only [hf] at ha; rw [V.same_eq ha]
        · exact ih (show backs E f a v m l = true from h) i s hm hb
theorem fores_spec {E : Env} {s : St} {m : Nat} : ∀ (l : List Rd), fores E s m l = true → ∀ p, p ∈ l → m.testBit p.i = false → p.f E p.a s.h.get = some p.v := by
  intro l
  induction l with
  | nil => intro _ p h; simp at h
  | cons g l ih =>
    intro h p hm hb
    simp only [fores] at h
    cases ht : tbit m g.i with
    | true =>
      rw [ht] at h
      rcases List.mem_cons.1 hm with e | hm
      · subst e; rw [tbit_eq, hb] at ht; cases ht
      · exact ih (show fores E s m l = true from h) p hm hb
    | false =>
      rw [ht] at h
      cases ha : again E g.f g.a s g.v with
      | false => rw [ha] at h; cases h
      | true =>
        rw [ha] at h
        rcases List.mem_cons.1 hm with e | hm
        · subst e
          unfold again at ha
          cases hf : p.f E p.a s.h.get with
          | none => simp only [hf] at ha; cases ha
          | some u => simp only [hf] at ha; rw [V.same_eq ha]
        · exact ih (show fores E s m l = true from h) p hm hb

theorem Post.more {ρ ρ1 : Mp} {s t : St} {H H1 : Array Obj} (h : Post ρ s H ρ1 t H1) {id : Nat} (hid : id < t.nx) (hs : s.nx ≤ id) (hf : ρ1 id = none) {p : Place} {o : Obj} (hp : p.c = H1.size) :
    Post ρ s H (ρ1.put id p) t (H1.push o) := by
  have ne : ∀ b x, t.h.get b = some x → alive x = true → b ≠ id := by
    intro b x hx ha e
    obtain ⟨q, _, u, _⟩ := h.rel.blk b x hx ha
    rw [e, hf] at u; cases u
  have lt : ∀ b x q, t.h.get b = some x → alive x = true → (ρ1.put id p) b = some q → ρ1 b = some q := by
    intro b x q hx ha hq
    rwa [Mp.put_at, if_neg (ne b x hx ha)] at hq
  refine ⟨h.m, h.mn, fun b hb => by rw [Mp.put_at, if_neg (by omega)]; exact h.ext b hb, h.nx, ⟨h.rel.lies.push o, fun b x q hx hw hq => h.rel.away b x q hx hw (lt b x q hx (wr_alive hw) hq), ?_, ?_, ?_⟩, by have := h.sz; simp; omega, ?_, ?_, ?_⟩
  · intro b q hq
    rw [Mp.put_at] at hq
    split at hq
    · omega
    · exact h.rel.dom b q hq
  · intro b x hx ha
    obtain ⟨q, o', g1, g2, g3⟩ := h.rel.blk b x hx ha
    have := (Array.getElem?_eq_some_iff.1 g2).1
    exact ⟨q, o', by rw [Mp.put_at, if_neg (ne b x hx ha)]; exact g1, by rw [Array.getElem?_push, if_neg (by omega)]; exact g2, g3.mono (Mp.le_put hf)⟩
  · intro b x b' x' q q' hx hw hx' ha hne hq hq' hc
    exact h.rel.apart b x b' x' q q' hx hw hx' ha hne (lt b x q hx (wr_alive hw) hq) (lt b' x' q' hx' ha hq') hc
  · intro c hc hn
    have := h.sz
    rw [Array.getElem?_push, if_neg (by omega)]; exact h.frame c hc hn
  · intro b x q hx hw hq hc
    exact h.wrs b x q hx hw (lt b x q hx (wr_alive hw) hq) hc
  · intro b x q hx hw hq hc
    exact h.alv b x q hx hw (lt b x q hx hw hq) hc

section
variable {P : Program} {w : World} {E : Env} {call : CallF} {ks nt ng : Nat} {ops : List Oper} {base n : Nat} {tr : Nat → Rg} {vl : Nat → V} {ρ0 : Mp} {s0 : St} {H0 : Array Obj} {w0 : World} {S : Nat → Bool} {act act0 : Act}

structure DInv (E : Env) (ops : List Oper) (base n : Nat) (tr : Nat → Rg) (vl : Nat → V) (nt : Nat) (ρ0 : Mp) (s0 : St) (H0 : Array Obj) (w0 : World) (act0 : Act) (S : Nat → Bool) (act : Act) (w : World) (q : Nat) (ρ : Mp) : Prop where
  qn : q ≤ n
  hq : q = 0 ∨ ∃ i, q = i + 1 ∧ IsA E ops n tr i ∧ S i = true
  aS : ∀ i, IsA E ops n tr i → S i = true → i < q
  pre : ∀ i, i < q → (IsA E ops n tr i ∨ ∃ b, IsN E ops n tr base i b) → S i = true
  post : Post ρ0 s0 H0 ρ (tr q).s w.heap
  nx : base + ops.length ≤ (tr q).s.nx
  exI : ∀ i b, q ≤ i → IsN E ops n tr base i b → S i = true → ∃ p o, ρ (base + i) = some p ∧ w.heap[p.c]? = some o ∧ BlkRel ρ p b o ∧ H0.size ≤ p.c ∧
    (∀ c y pc, (tr q).s.h.get c = some y → alive y = true → ρ c = some pc → pc.c ≠ p.c) ∧ ∀ k v, ρ.m p.c k ≠ some v
  exD : ∀ i i' b b' p p', q ≤ i → q ≤ i' → IsN E ops n tr base i b → IsN E ops n tr base i' b' → S i = true → S i' = true → i ≠ i' → ρ (base + i) = some p → ρ (base + i') = some p' → p.c ≠ p'.c
  exN : ∀ i b, q ≤ i → IsN E ops n tr base i b → S i = false → ρ (base + i) = none
  temps : ∀ t, VRel ρ (lastV ops (tr 0).a vl S n t) (act.tmps.getD t undef)
  sz : nt ≤ act.tmps.size
  d : act.defers = act0.defers
  sm : Same w0 w

theorem IsN.lt {i : Nat} {b : Blk} (h : IsN E ops n tr base i b) : i < n := h.1
theorem IsA.lt {i : Nat} (h : IsA E ops n tr i) : i < n := h.1
theorem IsN.uniq {i : Nat} {b b' : Blk} (h : IsN E ops n tr base i b) (h' : IsN E ops n tr base i b') : b = b' := by
  obtain ⟨_, o, f, v, h1, h2, h3, h4⟩ := h
  obtain ⟨_, o', f', v', k1, k2, k3, k4⟩ := h'
  rw [h1] at k1; cases k1
  rw [h3] at k3; cases k3
  rw [h4] at k4; cases k4; rfl

variable {q : Nat} {ρ : Mp}

theorem DInv.sees (ht : Tr E call ks ops base n tr vl) (h : DInv E ops base n tr vl nt ρ0 s0 H0 w0 act0 S act w q ρ) {j : Nat} (hj : q ≤ j) (hjn : j ≤ n) (hno : ∀ i, q ≤ i → i < j → ¬ IsA E ops n tr i) :
    Sees ρ (tr j).s.h.get w.heap := by
  refine ⟨?_, h.post.rel.lies⟩
  intro x b p hx ha hp
  rcases (ht.between j hj hjn hno).2 x b hx with g | ⟨i, a1, a2, rfl, a4⟩
  · exact h.post.rel.sees.row x b p g ha hp
  · cases hs : S i with
    | false => rw [h.exN i b a1 a4 hs] at hp; cases hp
    | true =>
      obtain ⟨p', o, e1, e2, e3, _⟩ := h.exI i b a1 a4 hs
      rw [e1] at hp; cases hp
      exact ⟨o, e2, e3⟩

theorem DInv.advance (ht : Tr E call ks ops base n tr vl) (h : DInv E ops base n tr vl nt ρ0 s0 H0 w0 act0 S act w q ρ) {j : Nat} (hj : q ≤ j) (hjn : j ≤ n) (hno : ∀ i, q ≤ i → i < j → ¬ IsA E ops n tr i)
    (hN : ∀ i b, q ≤ i → i < j → IsN E ops n tr base i b → S i = true) : Post ρ0 s0 H0 ρ (tr j).s w.heap := by
  obtain ⟨hnx, hb⟩ := ht.between j hj hjn hno
  have two : ∀ x b, (tr j).s.h.get x = some b → (tr q).s.h.get x = some b ∨ ∃ i p o, q ≤ i ∧ i < j ∧ x = base + i ∧ IsN E ops n tr base i b ∧ S i = true ∧ ρ x = some p ∧ w.heap[p.c]? = some o ∧ BlkRel ρ p b o ∧ H0.size ≤ p.c ∧
      (∀ c y pc, (tr q).s.h.get c = some y → alive y = true → ρ c = some pc → pc.c ≠ p.c) ∧ ∀ k v, ρ.m p.c k ≠ some v := by
    intro x b hx
    rcases hb x b hx with g | ⟨i, a1, a2, rfl, a4⟩
    · exact .inl g
    · have hs := hN i b a1 a2 a4
      obtain ⟨p, o, e1, e2, e3, e4, e5⟩ := h.exI i b a1 a4 hs
      exact .inr ⟨i, p, o, a1, a2, rfl, a4, hs, e1, e2, e3, e4, e5⟩
  refine ⟨h.post.m, h.post.mn, h.post.ext, by rw [hnx]; exact h.post.nx, ⟨h.post.rel.lies, fun x b p hx hw hp => by
      rcases two x b hx with g | ⟨i, p1, o1, _, _, _, _, _, e1, _, _, _, _, e6⟩
      · exact h.post.rel.away x b p g hw hp
      · rw [e1] at hp; cases hp; exact e6, by rw [hnx]; exact h.post.rel.dom, ?_, ?_⟩, h.post.sz, h.post.frame, ?_, ?_⟩
  · intro x b hx ha
    rcases two x b hx with g | ⟨i, p, o, _, _, _, _, _, e1, e2, e3, _⟩
    · exact h.post.rel.blk x b g ha
    · exact ⟨p, o, e1, e2, e3⟩
  · intro x b x' b' p p' hx hw hx' ha hne hp hp' hc
    rcases two x b hx with g | ⟨i, p1, o1, a1, a2, a3, a4, a5, e1, e2, e3, e4, e5⟩
    · rcases two x' b' hx' with g' | ⟨i', p1', o1', a1', a2', a3', a4', a5', e1', e2', e3', e4', e5'⟩
      · exact h.post.rel.apart x b x' b' p p' g hw g' ha hne hp hp' hc
      · rw [e1'] at hp'; cases hp'
        exact absurd hc (e5'.1 x b p g (wr_alive hw) hp)
    · rw [e1] at hp; cases hp
      rcases two x' b' hx' with g' | ⟨i', p1', o1', a1', a2', a3', a4', a5', e1', e2', e3', e4', e5'⟩
      · exact absurd hc.symm (e5.1 x' b' p' g' ha hp')
      · rw [e1'] at hp'; cases hp'
        have hii : i ≠ i' := fun e => hne (by rw [a3', a3, e])
        subst a3 a3'
        exact absurd hc (h.exD i i' b b' p p' a1 a1' a4 a4' a5 a5' hii e1 e1')
  · intro x b p hx hw hp hc
    rcases two x b hx with g | ⟨i, p1, o1, _, _, _, _, _, e1, _, _, e4, _⟩
    · exact h.post.wrs x b p g hw hp hc
    · rw [e1] at hp; cases hp; omega
  · intro x b p hx hw hp hc
    rcases two x b hx with g | ⟨i, p1, o1, _, _, _, _, _, e1, _, _, e4, _⟩
    · exact h.post.alv x b p g hw hp hc
    · rw [e1] at hp; cases hp; omega

theorem DInv.alone (ht : Tr E call ks ops base n tr vl) (h : DInv E ops base n tr vl nt ρ0 s0 H0 w0 act0 S act w q ρ) {j : Nat} (hj : q ≤ j) (hjn : j ≤ n) (hno : ∀ i, q ≤ i → i < j → ¬ IsA E ops n tr i)
    (hN : ∀ i b, q ≤ i → i < j → IsN E ops n tr base i b → S i = true) {i : Nat} {b : Blk} (hi : j ≤ i) (hn : IsN E ops n tr base i b) (hs : S i = true) {p : Place} (hp : ρ (base + i) = some p) :
    ∀ c y pc, (tr j).s.h.get c = some y → alive y = true → ρ c = some pc → pc.c ≠ p.c := by
  intro c y pc hy ha hpc
  rcases (ht.between j hj hjn hno).2 c y hy with g | ⟨i', a1, a2, rfl, a4⟩
  · obtain ⟨p', o, e1, _, _, _, e5⟩ := h.exI i b (by omega) hn hs
    rw [e1] at hp; cases hp
    exact e5.1 c y pc g ha hpc
  · exact h.exD i' i y b pc p a1 (by omega) a4 hn (hN i' y a1 a2 a4) hs (by omega) hpc hp

end
end Ev
