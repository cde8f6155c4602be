import Derived.Test.YtjmnhilkgjfllaaGreatDoorEvT
import Derived.LoopN
set_option linter.unusedVariables false
set_option linter.unusedSimpArgs false
namespace Ev
open Go

/-! ### constants -/
theorem convC0_rel {ρ : Mp} {v : Value} {c : C} (h : convC0 v = some c) : CRel ρ c v := by
  unfold convC0 at h
  split at h <;> try (cases h; done)
  all_goals try (cases h; first | rfl | exact ⟨_, rfl, rfl⟩)
  rename_i f a b
  cases ha : a.toList with
  | cons _ _ => rw [ha] at h; cases h
  | nil =>
    rw [ha] at h
    cases hb : b.toList with
    | cons _ _ => rw [hb] at h; cases h
    | nil =>
      rw [hb] at h
      cases h
      have ea : a = #[] := by cases a; simp at ha; rw [ha]
      have eb : b = #[] := by cases b; simp at hb; rw [hb]
      subst ea eb
      exact ⟨#[], rfl, .nil⟩
theorem convC_rel {ρ : Mp} {v : Value} {c : C} (h : convC v = some c) : CRel ρ c v := by
  unfold convC at h
  split at h
  · rename_i t v
    cases h1 : convC0 v with
    | none => rw [h1] at h; cases h
    | some c' => rw [h1] at h; cases h; exact ⟨v, rfl, convC0_rel h1⟩
  · exact convC0_rel h
theorem convL_rel {ρ : Mp} : ∀ {l : List Value} {r : List C}, convL l = some r → LRel ρ r l
  | [], r, h => by simp only [convL, Option.some.injEq] at h; subst h; exact .nil
  | v :: l, r, h => by
    simp only [convL] at h
    cases h1 : convC v with
    | none => rw [h1] at h; cases h
    | some c =>
      rw [h1] at h
      simp only [] at h
      cases h2 : convL l with
      | none => rw [h2] at h; cases h
      | some cs => rw [h2] at h; cases h; exact .cons (convC_rel h1) (convL_rel h2)
theorem conv_rel {ρ : Mp} (v : Value) : VRel ρ (conv v) v := by
  unfold conv
  split
  · rename_i cs
    cases h : convL cs.toList with
    | none => trivial
    | some l => exact ⟨cs, rfl, convL_rel h⟩
  · trivial
  · cases h : convC v with
    | none => trivial
    | some c => exact convC_rel h

/-! ### temporaries -/
theorem L.get_nil (t : Nat) : L.nil.get t = .un := rfl
theorem L.get_cons (d : Nat) (v : V) (l : L) (t : Nat) : (L.cons d v l).get t = if d = t then v else l.get t := by
  show @Bool.rec (fun _ => V) (l.get t) v (Nat.beq d t) = _
  by_cases h : d = t
  · subst h; simp
  · rw [if_neg h]
    have : Nat.beq d t = false := by cases hb : Nat.beq d t with | false => rfl | true => exact absurd (Nat.eq_of_beq_eq_true hb) h
    rw [this]
theorem L.get_set (l : L) (d : Nat) (v : V) (t : Nat) : (l.set d v).get t = if d = t then v else l.get t := by
  induction l with
  | nil => show (L.cons d v .nil).get t = _; rw [L.get_cons]
  | cons e u l ih =>
    show (@Bool.rec (fun _ => L) (L.cons e u (l.set d v)) (.cons d v l) (Nat.beq e d)).get t = _
    by_cases h : e = d
    · subst h
      simp only [Nat.beq_eq_true_eq, Nat.beq_refl]
      rw [L.get_cons, L.get_cons]; split <;> rfl
    · have : Nat.beq e d = false := by cases hb : Nat.beq e d with | false => rfl | true => exact absurd (Nat.eq_of_beq_eq_true hb) h
      rw [this]
      show (L.cons e u (l.set d v)).get t = _
      rw [L.get_cons, L.get_cons, ih]
      by_cases h1 : e = t
      · rw [if_pos h1, if_pos h1, if_neg (by omega)]
      · rw [if_neg h1, if_neg h1]
theorem A.get_base (d : Nat) (v : V) (l : L) (t : Nat) : (A.base d v l).get t = if d = t then v else l.get t := L.get_cons d v l t
theorem A.get_put (d : Nat) (v : V) (k : Bool) (a : A) (t : Nat) : (A.put d v k a).get t = if d = t then v else a.get t := by
  show @Bool.rec (fun _ => V) (a.get t) v (Nat.beq d t) = _
  by_cases h : d = t
  · subst h; simp
  · rw [if_neg h]
    have : Nat.beq d t = false := by cases hb : Nat.beq d t with | false => rfl | true => exact absurd (Nat.eq_of_beq_eq_true hb) h
    rw [this]

def Wf (ks : Nat) : A → Prop
  | .base d v l => (∀ t, tbit ks t = false → l.get t = .un) ∧ (l.get d = .un ∨ l.get d = v)
  | .put d _ k a => k = tbit ks d ∧ Wf ks a
theorem keep_ok {ks : Nat} : ∀ {a : A}, Wf ks a → (∀ t, tbit ks t = false → a.keep.get t = .un) ∧ (∀ t, a.keep.get t = .un ∨ a.keep.get t = a.get t)
  | .base d v l, h => by
    refine ⟨h.1, fun t => ?_⟩
    show l.get t = .un ∨ l.get t = _
    rw [A.get_base]
    by_cases e : d = t
    · subst e; rw [if_pos rfl]; exact h.2
    · rw [if_neg e]; exact .inr rfl
  | .put d v k a, h => by
    obtain ⟨rfl, h⟩ := h
    obtain ⟨h1, h2⟩ := keep_ok h
    have hk : (A.put d v (tbit ks d) a).keep = if tbit ks d then a.keep.set d v else a.keep := by
      show @Bool.rec (fun _ => L) a.keep (a.keep.set d v) (tbit ks d) = _
      cases tbit ks d <;> rfl
    rw [hk]
    cases hb : tbit ks d with
    | true =>
      simp only [if_true, L.get_set, A.get_put]
      refine ⟨fun t ht => ?_, fun t => ?_⟩
      · rw [if_neg (by intro e; subst e; rw [hb] at ht; cases ht)]; exact h1 t ht
      · by_cases e : d = t
        · rw [if_pos e, if_pos e]; exact .inr rfl
        · rw [if_neg e, if_neg e]; exact h2 t
    | false =>
      simp only [Bool.false_eq_true, if_false, A.get_put]
      refine ⟨h1, fun t => ?_⟩
      by_cases e : d = t
      · subst e; exact .inl (h1 d hb)
      · rw [if_neg e]; exact h2 t
theorem flush_ok {ks : Nat} {a : A} (h : Wf ks a) : Wf ks a.flush ∧ ∀ t, a.flush.get t = .un ∨ a.flush.get t = a.get t := by
  cases a with
  | base d v l => exact ⟨h, fun t => .inr rfl⟩
  | put d v k a =>
    have hk := keep_ok h
    have hf : (A.put d v k a).flush = .base d v (A.put d v k a).keep := rfl
    rw [hf]
    refine ⟨⟨hk.1, ?_⟩, fun t => ?_⟩
    · rcases hk.2 d with g | g
      · exact .inl g
      · right; rw [g, A.get_put, if_pos rfl]
    · rw [A.get_base]
      by_cases e : d = t
      · subst e; rw [if_pos rfl, A.get_put, if_pos rfl]; exact .inr rfl
      · rw [if_neg e]; exact hk.2 t

section
variable {P : Program} {w : World} {E : Env} {ρ : Mp} {a : A} {s s' : St} {call : CallF} {ks nt ng : Nat} {act : Act}

def TRel (ρ : Mp) (a : A) (act : Act) : Prop := ∀ t, VRel ρ (a.get t) (act.tmps.getD t undef)
def opndOk (ng : Nat) (x : Operand) : Bool := match x with
  | .global g => Nat.ble (Nat.succ g) ng
  | _ => true

theorem opRel {x : Operand} (ht : TRel ρ a act) (hg : GOk ng ρ) (hx : opndOk ng x = true) : OpRel ρ a act.eval x := by
  cases x with
  | tmp t => exact ht t
  | const v => exact conv_rel v
  | global g =>
    obtain ⟨p, h1, h2, h3⟩ := hg g (Nat.le_of_ble_eq_true hx)
    refine ⟨p, h1, ?_⟩
    show Value.pointer (some ⟨g, 0, none⟩) = .pointer (some ⟨p.c, p.o + 0, none⟩)
    rw [h2, h3]
  | func f => exact ⟨#[], rfl, .nil⟩

theorem TRel.mono {ρ' : Mp} (h : ρ.le ρ') (ht : TRel ρ a act) : TRel ρ' a act := fun t => (ht t).mono h
theorem TRel.put (ht : TRel ρ a act) {d : Option Nat} {v : V} {u : Value} (hv : VRel ρ v u) (hd : ∀ x, d = some x → x < act.tmps.size) : TRel ρ (putA ks a d v) (act.put d u) := by
  cases d with
  | none => exact ht
  | some d =>
    intro t
    show VRel ρ ((A.put d v (tbit ks d) a).get t) ((act.tmps.setIfInBounds d u).getD t undef)
    rw [A.get_put]
    by_cases e : d = t
    · subst e
      have := hd d rfl
      simp [this]; exact hv
    · rw [if_neg e]
      have : (act.tmps.setIfInBounds d u).getD t undef = act.tmps.getD t undef := by
        simp [Array.getD_eq_getD_getElem?, Array.getElem?_setIfInBounds_ne e]
      rw [this]; exact ht t
theorem Wf.put (h : Wf ks a) (d : Option Nat) (v : V) : Wf ks (putA ks a d v) := by
  cases d with
  | none => exact h
  | some d => exact ⟨rfl, h⟩
theorem put_size (d : Option Nat) (u : Value) : (act.put d u).tmps.size = act.tmps.size := by cases d <;> simp [Act.put]
theorem put_defers (d : Option Nat) (u : Value) : (act.put d u).defers = act.defers := by cases d <;> rfl

structure Inv (ks nt ng : Nat) (ρ : Mp) (a : A) (act : Act) (s : St) (w : World) : Prop where
  t : TRel ρ a act
  wf : Wf ks a
  h : HRel ρ s.h.get s.nx w.heap
  g : GOk ng ρ
  sz : nt ≤ act.tmps.size
structure Goes (ks nt ng : Nat) (ρ : Mp) (s : St) (w : World) (act : Act) (ρ' : Mp) (a' : A) (s' : St) (act' : Act) (w' : World) : Prop where
  post : Post ρ s w.heap ρ' s' w'.heap
  inv : Inv ks nt ng ρ' a' act' s' w'
  d : act'.defers = act.defers
  sm : Same w w'

theorem GOk.post {ρ' : Mp} {H' : Array Obj} (hg : GOk ng ρ) (h : HRel ρ s.h.get s.nx w.heap) (hp : Post ρ s w.heap ρ' s' H') : GOk ng ρ' := fun g hn => by
  obtain ⟨p, h1, h2⟩ := hg g hn
  exact ⟨p, by rw [hp.ext g (h.dom g p h1)]; exact h1, h2⟩
theorem Goes.refl (h : Inv ks nt ng ρ a act s w) : Goes ks nt ng ρ s w act ρ a s act w := ⟨Post.refl h.h, h, rfl, Same.refl _⟩
theorem Goes.trans {ρ1 ρ2 : Mp} {a1 a2 : A} {s1 s2 : St} {act1 act2 : Act} {w1 w2 : World} (h1 : Goes ks nt ng ρ s w act ρ1 a1 s1 act1 w1) (h2 : Goes ks nt ng ρ1 s1 w1 act1 ρ2 a2 s2 act2 w2) :
    Goes ks nt ng ρ s w act ρ2 a2 s2 act2 w2 := ⟨h1.post.trans h2.post, h2.inv, h2.d.trans h1.d, h1.sm.trans h2.sm⟩

/-- what is checked of an operation once -/
def operOk (nt ng : Nat) (o : Oper) : Bool := and (match o.dst with
  | none => true
  | some d => Nat.ble (Nat.succ d) nt) (o.op.operands.toList.all (opndOk ng))

theorem Inv.step (h : Inv ks nt ng ρ a act s w) {o : Oper} (ho : operOk nt ng o = true) {v : V} {s' : St} {u : Value} {w' : World} (hd : Done ρ s w v s' u w') :
    ∃ ρ', Goes ks nt ng ρ s w act ρ' (putA ks a o.dst v) s' (act.put o.dst u) w' := by
  obtain ⟨ρ', ⟨hp, hsm⟩, hv⟩ := hd
  unfold operOk at ho
  rw [Bool.and_eq_true] at ho
  refine ⟨ρ', hp, ⟨(h.t.mono (hp.le h.h)).put hv ?_, h.wf.put _ _, hp.rel, h.g.post h.h hp, by rw [put_size]; exact h.sz⟩, put_defers _ _, hsm⟩
  intro x hx
  have h1 := ho.1
  rw [hx] at h1
  have : x + 1 ≤ nt := Nat.le_of_ble_eq_true h1
  have := h.sz
  omega

theorem Inv.skip (h : Inv ks nt ng ρ a act s w) {o : Oper} (ho : operOk nt ng o = true) : Goes ks nt ng ρ s w act ρ (putA ks a o.dst skipV) s (act.put o.dst undef) w := by
  unfold operOk at ho
  rw [Bool.and_eq_true] at ho
  refine ⟨Post.refl h.h, ⟨h.t.put ⟨#[], rfl, .nil⟩ ?_, h.wf.put _ _, h.h, h.g, by rw [put_size]; exact h.sz⟩, put_defers _ _, Same.refl _⟩
  intro x hx
  have h1 := ho.1
  rw [hx] at h1
  have : x + 1 ≤ nt := Nat.le_of_ble_eq_true h1
  have := h.sz
  omega

theorem operands_ok {o : Oper} (h : Inv ks nt ng ρ a act s w) (ho : operOk nt ng o = true) : ∀ x ∈ o.op.operands, OpRel ρ a act.eval x := by
  intro x hx
  unfold operOk at ho
  rw [Bool.and_eq_true, List.all_eq_true] at ho
  exact opRel h.t h.g (ho.2 x (by simpa using hx))

def ofB (u : Value) : Option Bool := match u with | .bool x => some x | _ => none
theorem boolIs_ok {v : V} {u : Value} {b c : Bool} (hv : VRel ρ v u) (h : boolIs v b = some c) : (ofB u == some b) = c := by
  unfold boolIs at h
  split at h
  · cases h
  · cases h
  · rename_i x
    cases h
    have : u = .bool x := hv
    subst this; cases x <;> cases b <;> rfl
  · rename_i h1 h0 h2
    cases h
    have : ∀ x, u ≠ .bool x := by
      intro x hu
      subst hu
      cases v with
      | un => exact h1 rfl
      | tup l => obtain ⟨_, h3, _⟩ := hv; cases h3
      | w y =>
        cases y with
        | agg l => obtain ⟨_, h3, _⟩ := hv; cases h3
        | c y =>
          cases y <;> simp only [VRel, WRel, CRel, PtrRel] at hv
          all_goals first
            | (exact h2 _ rfl)
            | (exact h0 rfl)
            | (cases hv; done)
            | (obtain ⟨_, h3, _⟩ := hv; cases h3; done)
            | (obtain ⟨_, _, h3⟩ := hv; cases h3; done)
            | (obtain ⟨_, _, _, _, h3, _⟩ := hv; cases h3; done)
    cases u <;> first | rfl | exact absurd rfl (this _)

theorem wanted_ok (ht : TRel ρ a act) {ops : List Oper} {o : Oper} {b : Bool} (h : wantedG a ops o.guard = some b) : Region.wanted o (yielded ops.toArray act.tmps) = b := by
  unfold Region.wanted
  cases hg : o.guard with
  | none => rw [hg] at h; cases h; rfl
  | some g =>
    obtain ⟨j, want⟩ := g
    rw [hg] at h
    replace h : guardOk a ops j want = some b := h
    unfold guardOk at h
    simp only [yielded, List.getElem?_toArray]
    cases hj : ops[j]? with
    | none => rw [hj] at h; cases h; cases want <;> rfl
    | some p =>
      rw [hj] at h
      simp only [Option.bind_some] at h ⊢
      cases hd : p.dst with
      | none => rw [hd] at h; cases h; cases want <;> rfl
      | some d =>
        rw [hd] at h
        simp only [Option.bind_some] at h ⊢
        have hv := ht d
        rw [Array.getD_eq_getD_getElem?] at hv
        have key := boolIs_ok hv h
        cases hx : act.tmps[d]? with
        | none => rw [hx] at key; exact key
        | some u =>
          rw [hx] at key
          simp only [Option.getD_some] at key
          rw [← key]
          cases u <;> rfl

/-! ### a region in the order of the text -/
theorem evOps_sound (hE : EnvOk E P) (hcall : CallOk P ng call) {ops : List Oper} {Q : Exit → Act → World → Prop} {a' : A} {s' : St} : ∀ (l : List Oper) (a : A) (s : St) (act : Act) (w : World) (ρ : Mp),
    (∀ o ∈ l, operOk nt ng o = true) → Inv ks nt ng ρ a act s w → evOps E call ks ops l a s = .ok a' s' →
    (∀ ρ' act' w', Goes ks nt ng ρ s w act ρ' a' s' act' w' → Q .normal act' w') → wpList P ops.toArray Q l act w := by
  intro l
  induction l with
  | nil => intro a s act w ρ _ hi h hQ; cases h; exact hQ _ _ _ (Goes.refl hi)
  | cons o l ih =>
    intro a s act w ρ ho hi h hQ
    have ho1 := ho o (by simp)
    replace h : (@Option.rec Bool (fun _ => AS) .no (fun b => @Bool.rec (fun _ => AS) (evOps E call ks ops l (putA ks a o.dst skipV) s)
      (@VS.rec (fun _ => AS) (fun v s => evOps E call ks ops l (putA ks a o.dst v) s) .no (evOp E call o.op a s)) b) (wantedG a ops o.guard)) = .ok a' s' := h
    cases hw : wantedG a ops o.guard with
    | none => rw [hw] at h; cases h
    | some b =>
      rw [hw] at h
      have hwant := wanted_ok hi.t hw
      unfold wpList
      rw [hwant]
      cases b with
      | false =>
        replace h : evOps E call ks ops l (putA ks a o.dst skipV) s = .ok a' s' := h
        have hg := hi.skip ho1
        simp only [Bool.false_eq_true, if_false]
        exact ih _ _ _ _ _ (fun o ho' => ho o (by simp [ho'])) hg.inv h fun ρ' act' w' g => hQ _ _ _ (hg.trans g)
      | true =>
        replace h : (@VS.rec (fun _ => AS) (fun v s => evOps E call ks ops l (putA ks a o.dst v) s) .no (evOp E call o.op a s)) = .ok a' s' := h
        simp only [if_true]
        left
        cases hv : evOp E call o.op a s with
        | no => rw [hv] at h; cases h
        | ok v s1 =>
          rw [hv] at h
          replace h : evOps E call ks ops l (putA ks a o.dst v) s1 = .ok a' s' := h
          refine op_sound hE hcall hi.h hi.g o (operands_ok hi ho1) hv fun u w1 hd => ?_
          obtain ⟨ρ1, hg⟩ := hi.step ho1 hd
          exact ih _ _ _ _ _ (fun o ho' => ho o (by simp [ho'])) hg.inv h fun ρ' act' w' g => hQ _ _ _ (hg.trans g)

theorem Goes.flush {ρ' : Mp} {a' : A} {s' : St} {act' : Act} {w' : World} (h : Goes ks nt ng ρ s w act ρ' a' s' act' w') : Goes ks nt ng ρ s w act ρ' a'.flush s' act' w' := by
  obtain ⟨f1, f2⟩ := flush_ok h.inv.wf
  refine ⟨h.post, ⟨fun t => ?_, f1, h.inv.h, h.inv.g, h.inv.sz⟩, h.d, h.sm⟩
  rcases f2 t with g | g
  · rw [g]; trivial
  · rw [g]; exact h.inv.t t

end
end Ev
