import Derived.Test.YtjmnhilkgjfllaaGreatDoorEvZ
set_option linter.unusedVariables false
set_option linter.unusedSimpArgs false
namespace Ev
open Go

theorem backs_spec {E : Env} {f : Env → A → Look → Option V} {a : A} {v : V} {m : Nat} : ∀ (l : List (Nat × St)), backs E f a v m l = true → ∀ i s, (i, s) ∈ l → m.testBit i = false → f E a s.h.get = some v := by
  intro l
  induction l with
  | nil => intro _ i s h; simp at h
  | cons g l ih =>
    intro h i s hm hb
    simp only [backs] at h
    cases ht : tbit m g.1 with
    | true =>
      rw [ht] at h
      rcases List.mem_cons.1 hm with e | hm
      · subst e; rw [tbit_eq, hb] at ht; cases ht
      · exact ih (show backs E f a v m l = true from h) i s hm hb
    | false =>
      rw [ht] at h
      cases ha : again E f a g.2 v with
      | false => rw [ha] at h; cases h
      | true =>
        rw [ha] at h
        rcases List.mem_cons.1 hm with e | hm
        · subst e
          unfold again at ha
          cases hf : f E a s.h.get with
          | none => simp only [hf] at ha; cases ha
          | some u => simp only [hf] at ha; rw [V.same_eq ha]
        · exact ih (show backs E f a v m l = true from h) i s hm hb
theorem fores_spec {E : Env} {s : St} {m : Nat} : ∀ (l : List Rd), fores E s m l = true → ∀ p, p ∈ l → m.testBit p.i = false → p.f E p.a s.h.get = some p.v := by
  intro l
  induction l with
  | nil => intro _ p h; simp at h
  | cons g l ih =>
    intro h p hm hb
    simp only [fores] at h
    cases ht : tbit m g.i with
    | true =>
      rw [ht] at h
      rcases List.mem_cons.1 hm with e | hm
      · subst e; rw [tbit_eq, hb] at ht; cases ht
      · exact ih (show fores E s m l = true from h) p hm hb
    | false =>
      rw [ht] at h
      cases ha : again E g.f g.a s g.v with
      | false => rw [ha] at h; cases h
      | true =>
        rw [ha] at h
        rcases List.mem_cons.1 hm with e | hm
        · subst e
          unfold again at ha
          cases hf : p.f E p.a s.h.get with
          | none => simp only [hf] at ha; cases ha
          | some u => simp only [hf] at ha; rw [V.same_eq ha]
        · exact ih (show fores E s m l = true from h) p hm hb

/-- a block more in the world, of which no state tells -/
theorem Post.more {ρ ρ1 : Mp} {s t : St} {H H1 : Array Obj} (h : Post ρ s H ρ1 t H1) {id : Nat} (hid : id < t.nx) (hs : s.nx ≤ id) (hf : ρ1 id = none) {p : Place} {o : Obj} (hp : p.c = H1.size) :
    Post ρ s H (ρ1.put id p) t (H1.push o) := by
  have ne : ∀ b x, t.h.get b = some x → alive x = true → b ≠ id := by
    intro b x hx ha e
    obtain ⟨q, _, u, _⟩ := h.rel.blk b x hx ha
    rw [e, hf] at u; cases u
  have lt : ∀ b x q, t.h.get b = some x → alive x = true → (ρ1.put id p) b = some q → ρ1 b = some q := by
    intro b x q hx ha hq
    rwa [Mp.put, if_neg (ne b x hx ha)] at hq
  refine ⟨fun b hb => by rw [Mp.put, if_neg (by omega)]; exact h.ext b hb, h.nx, ⟨?_, ?_, ?_⟩, by have := h.sz; simp; omega, ?_, ?_, ?_⟩
  · intro b q hq
    unfold Mp.put at hq
    split at hq
    · omega
    · exact h.rel.dom b q hq
  · intro b x hx ha
    obtain ⟨q, o', g1, g2, g3⟩ := h.rel.blk b x hx ha
    have := (Array.getElem?_eq_some_iff.1 g2).1
    exact ⟨q, o', by rw [Mp.put, if_neg (ne b x hx ha)]; exact g1, by rw [Array.getElem?_push, if_neg (by omega)]; exact g2, g3.mono (Mp.le_put hf)⟩
  · intro b x b' x' q q' hx hw hx' ha hne hq hq' hc
    exact h.rel.apart b x b' x' q q' hx hw hx' ha hne (lt b x q hx (wr_alive hw) hq) (lt b' x' q' hx' ha hq') hc
  · intro c hc hn
    have := h.sz
    rw [Array.getElem?_push, if_neg (by omega)]; exact h.frame c hc hn
  · intro b x q hx hw hq hc
    exact h.wrs b x q hx hw (lt b x q hx (wr_alive hw) hq) hc
  · intro b x q hx hw hq hc
    exact h.alv b x q hx hw (lt b x q hx hw hq) hc

section
variable {P : Program} {w : World} {E : Env} {call : CallF} {ks nt ng : Nat} {ops : List Oper} {base n : Nat} {tr : Nat → Rg} {vl : Nat → V} {ρ0 : Mp} {s0 : St} {H0 : Array Obj} {w0 : World} {S : Nat → Bool} {act act0 : Act}

structure DInv (E : Env) (ops : List Oper) (base n : Nat) (tr : Nat → Rg) (vl : Nat → V) (nt : Nat) (ρ0 : Mp) (s0 : St) (H0 : Array Obj) (w0 : World) (act0 : Act) (S : Nat → Bool) (act : Act) (w : World) (q : Nat) (ρ : Mp) : Prop where
  qn : q ≤ n
  hq : q = 0 ∨ ∃ i, q = i + 1 ∧ IsA E ops n tr i ∧ S i = true
  aS : ∀ i, IsA E ops n tr i → S i = true → i < q
  pre : ∀ i, i < q → (IsA E ops n tr i ∨ ∃ b, IsN E ops n tr base i b) → S i = true
  post : Post ρ0 s0 H0 ρ (tr q).s w.heap
  nx : base + ops.length ≤ (tr q).s.nx
  exI : ∀ i b, q ≤ i → IsN E ops n tr base i b → S i = true → ∃ p o, ρ (base + i) = some p ∧ w.heap[p.c]? = some o ∧ BlkRel ρ p b o ∧ H0.size ≤ p.c ∧
    ∀ c y pc, (tr q).s.h.get c = some y → alive y = true → ρ c = some pc → pc.c ≠ p.c
  exD : ∀ i i' b b' p p', q ≤ i → q ≤ i' → IsN E ops n tr base i b → IsN E ops n tr base i' b' → S i = true → S i' = true → i ≠ i' → ρ (base + i) = some p → ρ (base + i') = some p' → p.c ≠ p'.c
  exN : ∀ i b, q ≤ i → IsN E ops n tr base i b → S i = false → ρ (base + i) = none
  temps : ∀ t, VRel ρ (lastV ops (tr 0).a vl S n t) (act.tmps.getD t undef)
  sz : nt ≤ act.tmps.size
  d : act.defers = act0.defers
  sm : Same w0 w

theorem IsN.lt {i : Nat} {b : Blk} (h : IsN E ops n tr base i b) : i < n := h.1
theorem IsA.lt {i : Nat} (h : IsA E ops n tr i) : i < n := h.1
theorem IsN.uniq {i : Nat} {b b' : Blk} (h : IsN E ops n tr base i b) (h' : IsN E ops n tr base i b') : b = b' := by
  obtain ⟨_, o, f, v, h1, h2, h3, h4⟩ := h
  obtain ⟨_, o', f', v', k1, k2, k3, k4⟩ := h'
  rw [h1] at k1; cases k1
  rw [h3] at k3; cases k3
  rw [h4] at k4; cases k4; rfl

variable {q : Nat} {ρ : Mp}

/-- what the states of the text tell is there -/
theorem DInv.sees (ht : Tr E call ks ops base n tr vl) (h : DInv E ops base n tr vl nt ρ0 s0 H0 w0 act0 S act w q ρ) {j : Nat} (hj : q ≤ j) (hjn : j ≤ n) (hno : ∀ i, q ≤ i → i < j → ¬ IsA E ops n tr i) :
    Sees ρ (tr j).s.h.get w.heap := by
  intro x b p hx ha hp
  rcases (ht.between j hj hjn hno).2 x b hx with g | ⟨i, a1, a2, rfl, a4⟩
  · exact h.post.rel.sees x b p g ha hp
  · cases hs : S i with
    | false => rw [h.exN i b a1 a4 hs] at hp; cases hp
    | true =>
      obtain ⟨p', o, e1, e2, e3, _⟩ := h.exI i b a1 a4 hs
      rw [e1] at hp; cases hp
      exact ⟨o, e2, e3⟩

theorem DInv.advance (ht : Tr E call ks ops base n tr vl) (h : DInv E ops base n tr vl nt ρ0 s0 H0 w0 act0 S act w q ρ) {j : Nat} (hj : q ≤ j) (hjn : j ≤ n) (hno : ∀ i, q ≤ i → i < j → ¬ IsA E ops n tr i)
    (hN : ∀ i b, q ≤ i → i < j → IsN E ops n tr base i b → S i = true) : Post ρ0 s0 H0 ρ (tr j).s w.heap := by
  obtain ⟨hnx, hb⟩ := ht.between j hj hjn hno
  have two : ∀ x b, (tr j).s.h.get x = some b → (tr q).s.h.get x = some b ∨ ∃ i p o, q ≤ i ∧ i < j ∧ x = base + i ∧ IsN E ops n tr base i b ∧ S i = true ∧ ρ x = some p ∧ w.heap[p.c]? = some o ∧ BlkRel ρ p b o ∧ H0.size ≤ p.c ∧
      ∀ c y pc, (tr q).s.h.get c = some y → alive y = true → ρ c = some pc → pc.c ≠ p.c := by
    intro x b hx
    rcases hb x b hx with g | ⟨i, a1, a2, rfl, a4⟩
    · exact .inl g
    · have hs := hN i b a1 a2 a4
      obtain ⟨p, o, e1, e2, e3, e4, e5⟩ := h.exI i b a1 a4 hs
      exact .inr ⟨i, p, o, a1, a2, rfl, a4, hs, e1, e2, e3, e4, e5⟩
  refine ⟨h.post.ext, by rw [hnx]; exact h.post.nx, ⟨by rw [hnx]; exact h.post.rel.dom, ?_, ?_⟩, h.post.sz, h.post.frame, ?_, ?_⟩
  · intro x b hx ha
    rcases two x b hx with g | ⟨i, p, o, _, _, _, _, _, e1, e2, e3, _⟩
    · exact h.post.rel.blk x b g ha
    · exact ⟨p, o, e1, e2, e3⟩
  · intro x b x' b' p p' hx hw hx' ha hne hp hp' hc
    rcases two x b hx with g | ⟨i, p1, o1, a1, a2, a3, a4, a5, e1, e2, e3, e4, e5⟩
    · rcases two x' b' hx' with g' | ⟨i', p1', o1', a1', a2', a3', a4', a5', e1', e2', e3', e4', e5'⟩
      · exact h.post.rel.apart x b x' b' p p' g hw g' ha hne hp hp' hc
      · rw [e1'] at hp'; cases hp'
        exact absurd hc (e5' x b p g (wr_alive hw) hp)
    · rw [e1] at hp; cases hp
      rcases two x' b' hx' with g' | ⟨i', p1', o1', a1', a2', a3', a4', a5', e1', e2', e3', e4', e5'⟩
      · exact absurd hc.symm (e5 x' b' p' g' ha hp')
      · rw [e1'] at hp'; cases hp'
        have hii : i ≠ i' := fun e => hne (by rw [a3', a3, e])
        subst a3 a3'
        exact absurd hc (h.exD i i' b b' p p' a1 a1' a4 a4' a5 a5' hii e1 e1')
  · intro x b p hx hw hp hc
    rcases two x b hx with g | ⟨i, p1, o1, _, _, _, _, _, e1, _, _, e4, _⟩
    · exact h.post.wrs x b p g hw hp hc
    · rw [e1] at hp; cases hp; omega
  · intro x b p hx hw hp hc
    rcases two x b hx with g | ⟨i, p1, o1, _, _, _, _, _, e1, _, _, e4, _⟩
    · exact h.post.alv x b p g hw hp hc
    · rw [e1] at hp; cases hp; omega

/-- what is alone stays alone -/
theorem DInv.alone (ht : Tr E call ks ops base n tr vl) (h : DInv E ops base n tr vl nt ρ0 s0 H0 w0 act0 S act w q ρ) {j : Nat} (hj : q ≤ j) (hjn : j ≤ n) (hno : ∀ i, q ≤ i → i < j → ¬ IsA E ops n tr i)
    (hN : ∀ i b, q ≤ i → i < j → IsN E ops n tr base i b → S i = true) {i : Nat} {b : Blk} (hi : j ≤ i) (hn : IsN E ops n tr base i b) (hs : S i = true) {p : Place} (hp : ρ (base + i) = some p) :
    ∀ c y pc, (tr j).s.h.get c = some y → alive y = true → ρ c = some pc → pc.c ≠ p.c := by
  intro c y pc hy ha hpc
  rcases (ht.between j hj hjn hno).2 c y hy with g | ⟨i', a1, a2, rfl, a4⟩
  · obtain ⟨p', o, e1, _, _, _, e5⟩ := h.exI i b (by omega) hn hs
    rw [e1] at hp; cases hp
    exact e5 c y pc g ha hpc
  · exact h.exD i' i y b pc p a1 (by omega) a4 hn (hN i' y a1 a2 a4) hs (by omega) hpc hp

end
end Ev
