import Derived.Test.YtjmnhilkgjfllaaGreatDoorEvV
import Derived.Scope
set_option linter.unusedVariables false
set_option linter.unusedSimpArgs false
namespace Ev
open Go

section
variable {P : Program} {w : World} {E : Env} {ρ : Mp} {a : A} {s s' : St} {call : CallF} {ks nt ng : Nat} {act : Act}

/-- what is checked of a body once -/
def codeOk (nt ng : Nat) : Code → Bool
  | .region _ ops _ => ops.toList.all (operOk nt ng)
  | .seq a b => and (codeOk nt ng a) (codeOk nt ng b)
  | .cond c a b => and (opndOk ng c) (and (codeOk nt ng a) (codeOk nt ng b))
  | .block _ b => codeOk nt ng b
  | .loop b => codeOk nt ng b
  | .scope b => codeOk nt ng b
  | _ => true

/-- what a region that draws its order does -/
def DrawOk (P : Program) (E : Env) (ng : Nat) (call : CallF) : Prop := ∀ (ks nt : Nat) (ops : List Oper) (a : A) (s : St) (act : Act) (w : World) (ρ : Mp) (id : Nat) (a' : A) (s' : St) (Q : Exit → Act → World → Prop),
  (∀ o ∈ ops, operOk nt ng o = true) → Inv ks nt ng ρ a act s w → evDraw E call ks ops a s = .ok a' s' →
  (∀ ρ' act' w', Goes ks nt ng ρ s w act ρ' a' s' act' w' → Q .normal act' w') → (Code.region id ops.toArray true).wp P Q act w

def exOf : Ex → Exit
  | .nm => .normal
  | .ex i => .exit i
  | .ret => .ret

theorem andThen_ok {r : R} {k : A → St → R} {e : Ex} {a' : A} {s' : St} (h : andThen r k = .ok e a' s') :
    (∃ a1 s1, r = .ok .nm a1 s1 ∧ k a1 s1 = .ok e a' s') ∨ (r = .ok e a' s' ∧ e ≠ .nm) := by
  cases r with
  | bad => cases h
  | ok e1 a1 s1 =>
    cases e1 with
    | nm => exact .inl ⟨a1, s1, rfl, h⟩
    | ex i => cases h; exact .inr ⟨rfl, by intro h; cases h⟩
    | ret => cases h; exact .inr ⟨rfl, by intro h; cases h⟩

def CodeOk (P : Program) (ks nt ng : Nat) (c : Code) (f : A → St → R) : Prop := ∀ (a : A) (s : St) (act : Act) (w : World) (ρ : Mp) (e : Ex) (a' : A) (s' : St) (Q : Exit → Act → World → Prop),
  Inv ks nt ng ρ a act s w → f a s = .ok e a' s' → (∀ ρ' act' w', Goes ks nt ng ρ s w act ρ' a' s' act' w' → Q (exOf e) act' w') → c.wp P Q act w

theorem iter_ok {c : Code} {f : A → St → R} (hc : CodeOk P ks nt ng c f) (Q : Exit → Act → World → Prop) : ∀ (n m : Nat) (a : A) (s : St) (act : Act) (w : World) (ρ : Mp) (e : Ex) (a' : A) (s' : St),
    Inv ks nt ng ρ a act s w → iter f n a s = .ok e a' s' →
    (e = .nm → ∀ ρ' act' w', Goes ks nt ng ρ s w act ρ' a' s' act' w' → Code.rounds P c Q m act' w') →
    (e ≠ .nm → ∀ ρ' act' w', Goes ks nt ng ρ s w act ρ' a' s' act' w' → Q (exOf e) act' w') → Code.rounds P c Q (m + 2 ^ n) act w := by
  intro n
  induction n with
  | zero =>
    intro m a s act w ρ e a' s' hi h h1 h2
    show c.wp P (Exit.then (Code.rounds P c Q m) Q) act w
    refine hc a s act w ρ e a' s' _ hi h fun ρ' act' w' g => ?_
    cases e with
    | nm => exact h1 rfl _ _ _ g
    | ex i => exact h2 (by intro h; cases h) _ _ _ g
    | ret => exact h2 (by intro h; cases h) _ _ _ g
  | succ n ih =>
    intro m a s act w ρ e a' s' hi h h1 h2
    replace h : andThen (iter f n a s) (iter f n) = .ok e a' s' := h
    rw [show m + 2 ^ (n + 1) = (m + 2 ^ n) + 2 ^ n by rw [Nat.pow_succ]; omega]
    rcases andThen_ok h with ⟨a1, s1, q1, q2⟩ | ⟨q1, q2⟩
    · refine ih (m + 2 ^ n) a s act w ρ .nm a1 s1 hi q1 (fun _ ρ1 act1 w1 g => ?_) (fun h => absurd rfl h)
      exact ih m a1 s1 act1 w1 ρ1 e a' s' g.inv q2 (fun he ρ' act' w' g' => h1 he _ _ _ (g.trans g')) (fun he ρ' act' w' g' => h2 he _ _ _ (g.trans g'))
    · exact ih (m + 2 ^ n) a s act w ρ e a' s' hi q1 (fun he => absurd he q2) h2

theorem code_sound (hE : EnvOk E P) (hcall : CallOk P ng call) (hd : DrawOk P E ng call) (lf : Nat) : ∀ (c : Code), codeOk nt ng c = true → CodeOk P ks nt ng c (evCode E call ks lf c) := by
  intro c
  induction c with
  | skip => intro _ a s act w ρ e a' s' Q hi h hQ; cases h; exact wp_skip (hQ _ _ _ (Goes.refl hi))
  | region id ops d =>
    intro hok a s act w ρ e a' s' Q hi h hQ
    have hops : ∀ o ∈ ops.toList, operOk nt ng o = true := List.all_eq_true.1 hok
    replace h : regR (evRegion E call ks ops.toList d a s) = .ok e a' s' := h
    cases hr : evRegion E call ks ops.toList d a s with
    | no => rw [hr] at h; cases h
    | ok a1 s1 =>
      rw [hr] at h
      cases h
      unfold evRegion at hr
      cases d with
      | false =>
        simp only [] at hr
        cases h2 : evOps E call ks ops.toList ops.toList a s with
        | no => rw [h2] at hr; cases hr
        | ok a2 s2 =>
          rw [h2] at hr
          cases hr
          refine wp_region_list ?_
          have := evOps_sound (Q := Q) hE hcall ops.toList a s act w ρ hops hi h2 fun ρ' act' w' g => hQ _ _ _ g.flush
          simpa using this
      | true =>
        simp only [] at hr
        cases h2 : evDraw E call ks ops.toList a s with
        | no => rw [h2] at hr; cases hr
        | ok a2 s2 =>
          rw [h2] at hr
          cases hr
          have := hd ks nt ops.toList a s act w ρ id _ _ Q hops hi h2 fun ρ' act' w' g => hQ _ _ _ g.flush
          simpa using this
  | seq x y ihx ihy =>
    intro hok a s act w ρ e a' s' Q hi h hQ
    simp only [codeOk, Bool.and_eq_true] at hok
    replace h : andThen (evCode E call ks lf x a s) (evCode E call ks lf y) = .ok e a' s' := h
    refine wp_seq ?_
    rcases andThen_ok h with ⟨a1, s1, q1, q2⟩ | ⟨q1, q2⟩
    · exact ihx hok.1 a s act w ρ .nm a1 s1 _ hi q1 fun ρ1 act1 w1 g =>
        ihy hok.2 a1 s1 act1 w1 ρ1 e a' s' Q g.inv q2 fun ρ' act' w' g' => hQ _ _ _ (g.trans g')
    · refine ihx hok.1 a s act w ρ e a' s' _ hi q1 fun ρ1 act1 w1 g => ?_
      cases e with
      | nm => exact absurd rfl q2
      | ex i => exact hQ _ _ _ g
      | ret => exact hQ _ _ _ g
  | cond c x y ihx ihy =>
    intro hok a s act w ρ e a' s' Q hi h hQ
    simp only [codeOk, Bool.and_eq_true] at hok
    replace h : condR (opnd a c).toB (evCode E call ks lf x a s) (evCode E call ks lf y a s) = .ok e a' s' := h
    cases hb : (opnd a c).toB with
    | none => rw [hb] at h; cases h
    | some b =>
      rw [hb] at h
      have hc := toB_rel (opRel hi.t hi.g hok.1) hb
      refine wp_cond hc ?_
      cases b with
      | true => exact ihx hok.2.1 a s act w ρ e a' s' Q hi h hQ
      | false => exact ihy hok.2.2 a s act w ρ e a' s' Q hi h hQ
  | block id b ih =>
    intro hok a s act w ρ e a' s' Q hi h hQ
    replace h : inBlk id (evCode E call ks lf b a s) = .ok e a' s' := h
    refine wp_block ?_
    cases hr : evCode E call ks lf b a s with
    | bad => rw [hr] at h; cases h
    | ok e1 a1 s1 =>
      rw [hr] at h
      refine ih hok a s act w ρ e1 a1 s1 _ hi hr fun ρ' act' w' g => ?_
      cases e1 with
      | nm => cases h; exact hQ _ _ _ g
      | ret => cases h; exact hQ _ _ _ g
      | ex j =>
        replace h : (@Bool.rec (fun _ => R) (.ok (.ex j) a1 s1) (.ok .nm a1 s1) (Nat.beq j id)) = R.ok e a' s' := h
        show if j = id then Q .normal act' w' else Q (.exit j) act' w'
        cases hj : Nat.beq j id with
        | true => rw [hj] at h; cases h; rw [if_pos (Nat.eq_of_beq_eq_true hj)]; exact hQ _ _ _ g
        | false => rw [hj] at h; cases h; rw [if_neg (by intro e; subst e; simp at hj)]; exact hQ _ _ _ g
  | loop b ih =>
    intro hok a s act w ρ e a' s' Q hi h hQ
    replace h : loopEnd (iter (evCode E call ks lf b) lf a s) = .ok e a' s' := h
    cases hr : iter (evCode E call ks lf b) lf a s with
    | bad => rw [hr] at h; cases h
    | ok e1 a1 s1 =>
      rw [hr] at h
      have hne : e1 ≠ .nm ∧ e = e1 ∧ a' = a1 ∧ s' = s1 := by
        cases e1 with
        | nm => cases h
        | ex i => cases h; exact ⟨(by intro h; cases h), rfl, rfl, rfl⟩
        | ret => cases h; exact ⟨(by intro h; cases h), rfl, rfl, rfl⟩
      obtain ⟨h1, rfl, rfl, rfl⟩ := hne
      exact wp_loop_rounds (0 + 2 ^ lf) (iter_ok (ih hok) Q lf 0 a s act w ρ e a' s' hi hr (fun h => absurd h h1) (fun _ => hQ))
  | rangeFunc => intro _ a s act w ρ e a' s' Q hi h hQ; cases h
  | exit id => intro _ a s act w ρ e a' s' Q hi h hQ; cases h; exact wp_exit (hQ _ _ _ (Goes.refl hi))
  | scope b ih =>
    intro hok a s act w ρ e a' s' Q hi h hQ
    refine wp_scope_straight (ih hok a s act w ρ e a' s' _ hi h fun ρ' act' w' g => ?_)
    cases e with
    | nm => exact hQ _ _ _ g
    | ex i => exact hQ _ _ _ g
    | ret => exact hQ _ _ _ g
  | goto => intro _ a s act w ρ e a' s' Q hi h hQ; cases h
  | label => intro _ a s act w ρ e a' s' Q hi h hQ; cases h; exact wp_label (hQ _ _ _ (Goes.refl hi))
  | ret => intro _ a s act w ρ e a' s' Q hi h hQ; cases h; exact wp_ret (hQ _ _ _ (Goes.refl hi))
  | _ => intro _ a s act w ρ e a' s' Q hi h hQ; cases h

end
end Ev
