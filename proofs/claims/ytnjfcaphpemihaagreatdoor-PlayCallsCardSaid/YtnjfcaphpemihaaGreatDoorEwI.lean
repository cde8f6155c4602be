import Derived.Test.YtnjfcaphpemihaaGreatDoorEwG
set_option linter.unusedVariables false
set_option linter.unusedSimpArgs false
namespace Ev
open Go
def dt (E : Env) (ks : Nat) (tl : List Oper) (a : A) (s : St) (k : List Fr) (Q : Ex → A → St → Prop) : Prop := ∃ a' s', tailOps E ks tl a s [] = .ok a' s' ∧ go E ks k a'.flush s' Q
def ActR (E : Env) (f : Env → CallF → A → St → VS) (a : A) (s : St) (v : V) (s' : St) : Prop := ∃ N, ∀ lf n, N ≤ lf → N ≤ n → f E (runF E lf n) a s = .ok v s'
def dg (E : Env) (ks : Nat) (ops : List Oper) (base : Nat) (tl : List Oper) (k : List Fr) (Q : Ex → A → St → Prop) : List Oper → List Nat → Nat → A → St → List (Nat × St) → List Rd → Nat → Prop
  | [], _, _, a, s, _, _, _ => dt E ks tl a s k Q
  | _ :: _, [], _, _, _, _, _, _ => False
  | o :: l, m :: ms, j, a, s, gs, rs, eff => match wantedG a ops o.guard with
    | none => False
    | some false => dg E ks ops base tl k Q l ms (j + 1) (putA ks a o.dst skipV) s gs rs eff
    | some true => match kOf E (opK o.op) with
      | .r rd f => match f E a s.h.get with
        | none => False
        | some v => match rd with
          | false => dg E ks ops base tl k Q l ms (j + 1) (putA ks a o.dst v) s gs rs eff
          | true => backs E f a v m gs = true ∧ dg E ks ops base tl k Q l ms (j + 1) (putA ks a o.dst v) s gs (⟨j, f, a, v⟩ :: rs) eff
      | .n f => match f E a (base + j) with
        | none => False
        | some (v, b) => dg E ks ops base tl k Q l ms (j + 1) (putA ks a o.dst v) ⟨s.h.set (base + j) b, s.nx⟩ gs rs (Nat.lor eff (Nat.shiftLeft 1 j))
      | .a f => Nat.beq (Nat.land eff m) eff = true ∧ ∃ v s', ActR E f a s v s' ∧ fores E s' m rs = true ∧ dg E ks ops base tl k Q l ms (j + 1) (putA ks a o.dst v) s' ((j, s) :: gs) rs (Nat.lor eff (Nat.shiftLeft 1 j))
      | _ => False
section
variable {E : Env} {ks : Nat} {k : List Fr} {Q : Ex → A → St → Prop}
theorem dg_sound (ops : List Oper) (base : Nat) (tl : List Oper) : ∀ (l : List Oper) (ms : List Nat) (j : Nat) (a : A) (s : St) (gs : List (Nat × St)) (rs : List Rd) (eff : Nat), dg E ks ops base tl k Q l ms j a s gs rs eff →
    ∃ a' s' N, (∀ lf n, N ≤ lf → N ≤ n → ∃ gs' rs' eff', drawOps E (runF E lf n) ks ops base l ms j ⟨a, s, gs, rs, eff⟩ = some ⟨a', s', gs', rs', eff'⟩) ∧ dt E ks tl a' s' k Q := by
  intro l
  induction l with
  | nil => intro ms j a s gs rs eff h; exact ⟨a, s, 0, fun lf n _ _ => ⟨gs, rs, eff, rfl⟩, h⟩
  | cons o l ih =>
    intro ms j a s gs rs eff h
    cases ms with
    | nil => exact h.elim
    | cons m ms =>
      unfold dg at h
      have hw0 : ∀ a : A, wanted a ops o = wantedG a ops o.guard := fun _ => rfl
      cases hw : wantedG a ops o.guard with
      | none => rw [hw] at h; exact h.elim
      | some b =>
        rw [hw] at h
        cases b with
        | false =>
          obtain ⟨a', s', N, h1, h2⟩ := ih ms (j + 1) _ s gs rs eff h
          refine ⟨a', s', N, fun lf n q1 q2 => ?_, h2⟩
          obtain ⟨gs', rs', eff', h3⟩ := h1 lf n q1 q2
          refine ⟨gs', rs', eff', ?_⟩
          rw [← h3]
          simp only [drawOps, drawOp, hw0, hw, drawSkip]
        | true =>
          simp only [] at h
          cases hk : kOf E (opK o.op) with
          | r rd f =>
            rw [hk] at h
            simp only [] at h
            cases hf : f E a s.h.get with
            | none => rw [hf] at h; exact h.elim
            | some v =>
              rw [hf] at h
              cases rd with
              | false =>
                obtain ⟨a', s', N, h1, h2⟩ := ih ms (j + 1) _ s gs rs eff h
                refine ⟨a', s', N, fun lf n q1 q2 => ?_, h2⟩
                obtain ⟨gs', rs', eff', h3⟩ := h1 lf n q1 q2
                refine ⟨gs', rs', eff', ?_⟩
                rw [← h3]
                simp only [drawOps, drawOp, hw0, hw, hk, drawK, drawR, hf]
              | true =>
                obtain ⟨hb, h⟩ := h
                obtain ⟨a', s', N, h1, h2⟩ := ih ms (j + 1) _ s gs _ eff h
                refine ⟨a', s', N, fun lf n q1 q2 => ?_, h2⟩
                obtain ⟨gs', rs', eff', h3⟩ := h1 lf n q1 q2
                refine ⟨gs', rs', eff', ?_⟩
                rw [← h3]
                simp only [drawOps, drawOp, hw0, hw, hk, drawK, drawR, hf, hb]
          | n f =>
            rw [hk] at h
            simp only [] at h
            cases hf : f E a (base + j) with
            | none => rw [hf] at h; exact h.elim
            | some p =>
              obtain ⟨v, b⟩ := p
              rw [hf] at h
              obtain ⟨a', s', N, h1, h2⟩ := ih ms (j + 1) _ _ gs rs _ h
              refine ⟨a', s', N, fun lf n q1 q2 => ?_, h2⟩
              obtain ⟨gs', rs', eff', h3⟩ := h1 lf n q1 q2
              refine ⟨gs', rs', eff', ?_⟩
              rw [← h3]
              obtain ⟨hh, nx⟩ := s
              have hf' : f E a (Nat.add base j) = some (v, b) := hf
              simp only [drawOps, drawOp, hw0, hw, hk, drawK, drawN, hf']
              rfl
          | a f =>
            rw [hk] at h
            simp only [] at h
            obtain ⟨hm, v, s1, ⟨M, hM⟩, hfo, h⟩ := h
            obtain ⟨a', s', N, h1, h2⟩ := ih ms (j + 1) _ _ _ rs _ h
            refine ⟨a', s', N + M, fun lf n q1 q2 => ?_, h2⟩
            obtain ⟨gs', rs', eff', h3⟩ := h1 lf n (by omega) (by omega)
            refine ⟨gs', rs', eff', ?_⟩
            rw [← h3]
            have := hM lf n (by omega) (by omega)
            simp only [drawOps, drawOp, hw0, hw, hk, drawK, drawA, hm, this, hfo]
          | cv sr d x => rw [hk] at h; exact h.elim
          | no => rw [hk] at h; exact h.elim
noncomputable def tailIs (ops : List Oper) (ms : List Nat) (t : Nat) : Bool := match tailAt ops ops ms 0 0 with
  | 0 => Nat.beq t (lenA ops 0)
  | n => and (Nat.beq t n) (tailChk t (ms.drop t))
theorem go_drawD {a : A} {s : St} (i : Nat) (ops : Array Oper) (t : Nat) (n0 : Nat) (ms : List Nat) (hl : lenA ops.toList 0 = n0) (h1 : opsOk ops.toList = true) (hm : masks ops.toList = ms) (ht : tailIs ops.toList ms t = true)
    (h : dg E ks ops.toList s.nx (ops.toList.drop t) k Q (ops.toList.take t) ms 0 a ⟨s.h, s.nx + n0⟩ [] [] 0) : go E ks (.c (.region i ops true) :: k) a s Q := by
  subst hm hl
  obtain ⟨a1, s1, N, hN, a', s', htl, hgo⟩ := dg_sound _ _ _ _ _ _ _ _ _ _ _ h
  obtain ⟨e, a2, s2, M, hM, hq⟩ := hgo
  refine ⟨e, a2, s2, N + M, fun lf n g1 g2 => ?_, hq⟩
  obtain ⟨gs', rs', eff', hd⟩ := hN lf n (by omega) (by omega)
  have key : evDraw E (runF E lf n) ks ops.toList a s = .ok a' s' := by
    unfold evDraw
    rw [h1]
    simp only []
    unfold tailIs at ht
    obtain ⟨hh, nx⟩ := s
    cases hta : tailAt ops.toList ops.toList (masks ops.toList) 0 0 with
    | zero =>
      rw [hta] at ht
      have ht := Nat.eq_of_beq_eq_true ht
      rw [lenA_zero] at ht
      subst ht
      rw [List.take_length] at hd
      rw [List.drop_length] at htl
      have hd0 : evDraw0 E (runF E lf n) ks ops.toList ops.toList (masks ops.toList) a ⟨hh, nx⟩ = drawOps E (runF E lf n) ks ops.toList nx ops.toList (masks ops.toList) 0 ⟨a, ⟨hh, nx + lenA ops.toList 0⟩, [], [], 0⟩ := rfl
      simp only []
      rw [hd0, hd]
      exact htl
    | succ m =>
      rw [hta] at ht
      simp only [] at ht
      rw [Bool.and_eq_true] at ht
      have ht1 := Nat.eq_of_beq_eq_true ht.1
      subst ht1
      simp only []
      rw [ht.2]
      simp only []
      have hd0 : evDraw0 E (runF E lf n) ks ops.toList (ops.toList.take (m + 1)) (masks ops.toList) a ⟨hh, nx⟩ = drawOps E (runF E lf n) ks ops.toList nx (ops.toList.take (m + 1)) (masks ops.toList) 0 ⟨a, ⟨hh, nx + lenA ops.toList 0⟩, [], [], 0⟩ := rfl
      rw [hd0, hd]
      exact htl
  have := hM lf n (by omega) (by omega)
  have hc : evCode E (runF E lf n) ks lf (.region i ops true) a s = .ok .nm a'.flush s' := by
    show regR (flushR (evDraw E (runF E lf n) ks ops.toList a s)) = _
    rw [key]; rfl
  simp only [runK, andThen_nm] at this ⊢
  rw [hc]
  exact this
end
end Ev
