import Derived.Test.YtjmnhilkgjfllaaGreatDoorEvY
set_option linter.unusedVariables false
set_option linter.unusedSimpArgs false
namespace Ev
open Go

theorem tmpIn_iff (t : Nat) : ∀ l : List Operand, tmpIn t l = true ↔ Operand.tmp t ∈ l := by
  intro l
  induction l with
  | nil => simp [tmpIn]
  | cons x l ih =>
    cases x <;> simp only [tmpIn, List.mem_cons] <;> try (simp [ih]; done)
    rename_i u
    cases hb : Nat.beq t u with
    | true => simp [Nat.eq_of_beq_eq_true hb]
    | false =>
      have : t ≠ u := by intro e; subst e; simp at hb
      simp [ih, this]
theorem sameDst_iff (d : Nat) (x : Option Nat) : sameDst d x = true ↔ x = some d := by
  cases x with
  | none => simp [sameDst]
  | some e =>
    simp only [sameDst, Option.some.injEq]
    constructor
    · intro h; exact (Nat.eq_of_beq_eq_true h).symm
    · intro h; subst h; exact Nat.beq_refl _

/-- temporaries that op o looks at -/
def Looks (ops : List Oper) (o : Oper) (t : Nat) : Prop := Operand.tmp t ∈ o.op.operands.toList ∨ ∃ g p, o.guard = some g ∧ ops[g.1]? = some p ∧ p.dst = some t
theorem looksT_of {ops : List Oper} {o : Oper} {t : Nat} (h : Looks ops o t) : looksT ops t o = true := by
  unfold looksT
  rcases h with h | ⟨g, p, h1, h2, h3⟩
  · rw [(tmpIn_iff t _).2 h]; rfl
  · simp only [h1, h2, (sameDst_iff t p.dst).2 h3, Bool.or_true]
theorem apart_looks {ops : List Oper} {x o : Oper} (h : apartT ops x o = true) : (∀ d, x.dst = some d → ¬ Looks ops o d ∧ o.dst ≠ some d) ∧ (∀ d, o.dst = some d → ¬ Looks ops x d) := by
  unfold apartT at h
  rw [Bool.and_eq_true] at h
  refine ⟨fun d hd => ?_, fun d hd hl => ?_⟩
  · have h1 := h.1
    rw [hd] at h1
    simp only [Bool.not_eq_true'] at h1
    unfold usesT at h1
    refine ⟨fun hl => ?_, fun he => ?_⟩
    · have := looksT_of hl
      unfold looksT at this
      simp only [Bool.or_eq_true, Bool.or_eq_false_iff] at h1 this
      rcases this with g | g
      · rw [h1.1.2] at g; cases g
      · rw [h1.2] at g; cases g
    · simp only [Bool.or_eq_false_iff] at h1
      rw [(sameDst_iff d o.dst).2 he] at h1
      exact absurd h1.1.1 (by simp)
  · have h2 := h.2
    rw [hd] at h2
    simp only [Bool.not_eq_true'] at h2
    rw [looksT_of hl] at h2; cases h2

/-! ### who wrote a temporary last -/
def dstAt (ops : List Oper) (k : Nat) : Option Nat := (ops[k]?).bind (·.dst)
noncomputable def lastV (ops : List Oper) (a0 : A) (vl : Nat → V) (S : Nat → Bool) : Nat → Nat → V
  | 0, t => a0.get t
  | k + 1, t => if S k = true ∧ dstAt ops k = some t then vl k else lastV ops a0 vl S k t
theorem lastV_eq {ops : List Oper} {a0 : A} {vl : Nat → V} {S : Nat → Bool} {t j : Nat} (h1 : ∀ i, i < j → dstAt ops i = some t → S i = true) :
    ∀ k, j ≤ k → (∀ i, j ≤ i → i < k → dstAt ops i = some t → S i = false) → lastV ops a0 vl S k t = lastV ops a0 vl (fun _ => true) j t := by
  have low : ∀ k, k ≤ j → lastV ops a0 vl S k t = lastV ops a0 vl (fun _ => true) k t := by
    intro k
    induction k with
    | zero => intro _; rfl
    | succ k ih =>
      intro hk
      simp only [lastV]
      rw [ih (by omega)]
      by_cases hd : dstAt ops k = some t
      · rw [if_pos ⟨h1 k (by omega) hd, hd⟩, if_pos ⟨trivial, hd⟩]
      · rw [if_neg (fun h => hd h.2), if_neg (fun h => hd h.2)]
  intro k
  induction k with
  | zero => intro hj _; exact low 0 (by omega) ▸ (by have : j = 0 := by omega
                                                     subst this; rfl)
  | succ k ih =>
    intro hj h2
    by_cases hjk : j = k + 1
    · subst hjk; exact low (k + 1) (Nat.le_refl _)
    · simp only [lastV]
      rw [if_neg, ih (by omega) (fun i hi hk hd => h2 i hi (by omega) hd)]
      rintro ⟨hs, hd⟩
      rw [h2 k (by omega) (by omega) hd] at hs; cases hs
theorem lastV_same {ops : List Oper} {a0 : A} {vl : Nat → V} {S S' : Nat → Bool} {t : Nat} : ∀ k, (∀ i, i < k → dstAt ops i = some t → S' i = S i) → lastV ops a0 vl S' k t = lastV ops a0 vl S k t := by
  intro k
  induction k with
  | zero => intro _; rfl
  | succ k ih =>
    intro h
    simp only [lastV]
    rw [ih (fun i hi hd => h i (by omega) hd)]
    by_cases hd : dstAt ops k = some t
    · rw [h k (by omega) hd]
    · rw [if_neg (fun h => hd h.2), if_neg (fun h => hd h.2)]
theorem lastV_at {ops : List Oper} {a0 : A} {vl : Nat → V} {S : Nat → Bool} {t j : Nat} (hd : dstAt ops j = some t) (hs : S j = true) : ∀ k, j < k → (∀ i, j < i → i < k → dstAt ops i = some t → S i = false) → lastV ops a0 vl S k t = vl j := by
  intro k
  induction k with
  | zero => intro h; omega
  | succ k ih =>
    intro hj h2
    simp only [lastV]
    by_cases e : k = j
    · subst e; rw [if_pos ⟨hs, hd⟩]
    · rw [if_neg, ih (by omega) (fun i hi hk hd => h2 i hi (by omega) hd)]
      rintro ⟨hs', hd'⟩
      rw [h2 k (by omega) (by omega) hd'] at hs'; cases hs'

theorem wanted_ok' {ρ : Mp} {a : A} {act : Act} {ops : List Oper} {o : Oper} (ht : ∀ t, Looks ops o t → VRel ρ (a.get t) (act.tmps.getD t undef)) {b : Bool} (h : wantedG a ops o.guard = some b) :
    Region.wanted o (yielded ops.toArray act.tmps) = b := by
  unfold Region.wanted
  cases hg : o.guard with
  | none => rw [hg] at h; cases h; rfl
  | some g =>
    obtain ⟨j, want⟩ := g
    rw [hg] at h
    replace h : guardOk a ops j want = some b := h
    unfold guardOk at h
    simp only [yielded, List.getElem?_toArray]
    cases hj : ops[j]? with
    | none => rw [hj] at h; cases h; cases want <;> rfl
    | some p =>
      rw [hj] at h
      simp only [Option.bind_some] at h ⊢
      cases hd : p.dst with
      | none => rw [hd] at h; cases h; cases want <;> rfl
      | some d =>
        rw [hd] at h
        simp only [Option.bind_some] at h ⊢
        have hv := ht d (.inr ⟨_, p, hg, hj, hd⟩)
        rw [Array.getD_eq_getD_getElem?] at hv
        have key := boolIs_ok hv h
        cases hx : act.tmps[d]? with
        | none => rw [hx] at key; exact key
        | some u =>
          rw [hx] at key
          simp only [Option.getD_some] at key
          rw [← key]
          cases u <;> rfl

/-! ### the trace -/
structure Tr (E : Env) (call : CallF) (ks : Nat) (ops : List Oper) (base n : Nat) (tr : Nat → Rg) (vl : Nat → V) : Prop where
  ok : opsOk ops = true
  nl : n ≤ ops.length
  kd : ∀ j o, j < n → ops[j]? = some o → ∃ m, (masks ops)[j]? = some m ∧ Kd E call ks ops o j m base (tr j) (tr (j + 1)) (vl j)
  gs0 : (tr 0).gs = []
  rs0 : (tr 0).rs = []

section
variable {E : Env} {call : CallF} {ks : Nat} {ops : List Oper} {base n : Nat} {tr : Nat → Rg} {vl : Nat → V}

def IsA (E : Env) (ops : List Oper) (n : Nat) (tr : Nat → Rg) (j : Nat) : Prop := j < n ∧ ∃ o f, ops[j]? = some o ∧ wanted (tr j).a ops o = some true ∧ kOf E (opK o.op) = .a f
def IsN (E : Env) (ops : List Oper) (n : Nat) (tr : Nat → Rg) (base : Nat) (j : Nat) (b : Blk) : Prop := j < n ∧ ∃ o f v, ops[j]? = some o ∧ wanted (tr j).a ops o = some true ∧ kOf E (opK o.op) = .n f ∧ f E (tr j).a (base + j) = some (v, b)

theorem Tr.get (h : Tr E call ks ops base n tr vl) {j : Nat} (hj : j < n) : ∃ o m, ops[j]? = some o ∧ (masks ops)[j]? = some m ∧ Kd E call ks ops o j m base (tr j) (tr (j + 1)) (vl j) := by
  have : ops[j]? = some (ops[j]'(Nat.lt_of_lt_of_le hj h.nl)) := List.getElem?_eq_getElem (Nat.lt_of_lt_of_le hj h.nl)
  obtain ⟨m, h1, h2⟩ := h.kd j _ hj this
  exact ⟨_, m, this, h1, h2⟩

theorem Kd.ha {o : Oper} {j m : Nat} {g g' : Rg} {v : V} (h : Kd E call ks ops o j m base g g' v) : g'.a = putA ks g.a o.dst v := by cases h <;> assumption

theorem Tr.temps (h : Tr E call ks ops base n tr vl) : ∀ j, j ≤ n → ∀ t, (tr j).a.get t = lastV ops (tr 0).a vl (fun _ => true) j t := by
  intro j
  induction j with
  | zero => intro _ t; rfl
  | succ j ih =>
    intro hj t
    obtain ⟨o, m, h1, _, h3⟩ := h.get (j := j) (by omega)
    rw [h3.ha]
    simp only [lastV, dstAt, h1, Option.bind_some]
    cases hd : o.dst with
    | none => rw [if_neg (by simp)]; exact ih (by omega) t
    | some d =>
      show (A.put d (vl j) (tbit ks d) (tr j).a).get t = _
      rw [A.get_put]
      by_cases e : d = t
      · subst e; rw [if_pos rfl, if_pos ⟨trivial, rfl⟩]
      · rw [if_neg e, if_neg (by simp [e])]; exact ih (by omega) t

theorem Tr.eff (h : Tr E call ks ops base n tr vl) : ∀ j, j ≤ n → ∀ i, i < j → (IsA E ops n tr i ∨ ∃ b, IsN E ops n tr base i b) → (tr j).eff.testBit i = true := by
  intro j
  induction j with
  | zero => intro _ i hi; omega
  | succ j ih =>
    intro hj i hi hk
    obtain ⟨o, m, h1, _, h3⟩ := h.get (j := j) (by omega)
    have old : i < j → (tr j).eff.testBit i = true := fun hij => ih (by omega) i hij hk
    by_cases hij : i = j
    · subst hij
      cases h3 with
      | skip hw _ _ _ _ _ _ =>
        rcases hk with ⟨_, o', f', q1, q2, q3⟩ | ⟨b, _, o', f', v', q1, q2, q3, _⟩ <;> (rw [h1] at q1; cases q1; rw [hw] at q2; cases q2)
      | r hw rd f hk' _ _ _ _ _ _ =>
        rcases hk with ⟨_, o', f', q1, q2, q3⟩ | ⟨b, _, o', f', v', q1, q2, q3, _⟩ <;> (rw [h1] at q1; cases q1; rw [hk'] at q3; cases q3)
      | n _ _ _ _ _ _ _ _ _ he => rw [he, testBit_lor, testBit_one]; simp
      | a _ _ _ _ _ _ _ _ _ he => rw [he, testBit_lor, testBit_one]; simp
    · have := old (by omega)
      cases h3 with
      | skip _ _ _ _ _ _ he => rw [he]; exact this
      | r _ _ _ _ _ _ _ _ he _ => rw [he]; exact this
      | n _ _ _ _ _ _ _ _ _ he => rw [he, testBit_lor, this]; rfl
      | a _ _ _ _ _ _ _ _ _ he => rw [he, testBit_lor, this]; rfl

theorem Tr.gs (h : Tr E call ks ops base n tr vl) : ∀ j, j ≤ n → ∀ i, i < j → IsA E ops n tr i → (i, (tr i).s) ∈ (tr j).gs := by
  intro j
  induction j with
  | zero => intro _ i hi; omega
  | succ j ih =>
    intro hj i hi hk
    obtain ⟨o, m, h1, _, h3⟩ := h.get (j := j) (by omega)
    by_cases hij : i = j
    · subst hij
      obtain ⟨_, o', f', q1, q2, q3⟩ := hk
      rw [h1] at q1; cases q1
      cases h3 with
      | skip hw _ _ _ _ _ _ => rw [hw] at q2; cases q2
      | r hw rd f hk' _ _ _ _ _ _ => rw [hk'] at q3; cases q3
      | n _ _ _ hk' _ _ _ _ _ _ => rw [hk'] at q3; cases q3
      | a _ _ _ _ _ _ _ hg _ _ => rw [hg]; simp
    · have := ih (by omega) i (by omega) hk
      cases h3 with
      | skip _ _ _ _ hg _ _ => rw [hg]; exact this
      | r _ _ _ _ _ _ _ hg _ _ => rw [hg]; exact this
      | n _ _ _ _ _ _ _ hg _ _ => rw [hg]; exact this
      | a _ _ _ _ _ _ _ hg _ _ => rw [hg]; exact List.mem_cons_of_mem _ this

theorem Tr.rs (h : Tr E call ks ops base n tr vl) : ∀ j, j ≤ n → ∀ i, i < j → ∀ o f, ops[i]? = some o → wanted (tr i).a ops o = some true → kOf E (opK o.op) = .r true f → (⟨i, f, (tr i).a, vl i⟩ : Rd) ∈ (tr j).rs := by
  intro j
  induction j with
  | zero => intro _ i hi; omega
  | succ j ih =>
    intro hj i hi o' f' q1 q2 q3
    obtain ⟨o, m, h1, _, h3⟩ := h.get (j := j) (by omega)
    by_cases hij : i = j
    · subst hij
      rw [h1] at q1; cases q1
      cases h3 with
      | skip hw _ _ _ _ _ _ => rw [hw] at q2; cases q2
      | r hw rd f hk' _ _ _ _ _ hr =>
        rw [hk'] at q3; cases q3
        rcases hr with ⟨hr, _⟩ | ⟨_, _, hr⟩
        · cases hr
        · rw [hr]; simp
      | n _ _ _ hk' _ _ _ _ _ _ => rw [hk'] at q3; cases q3
      | a _ _ hk' _ _ _ _ _ _ _ => rw [hk'] at q3; cases q3
    · have := ih (by omega) i (by omega) o' f' q1 q2 q3
      cases h3 with
      | skip _ _ _ _ _ hr _ => rw [hr]; exact this
      | r _ _ _ _ _ _ _ _ _ hr =>
        rcases hr with ⟨_, hr⟩ | ⟨_, _, hr⟩
        · rw [hr]; exact this
        · rw [hr]; exact List.mem_cons_of_mem _ this
      | n _ _ _ _ _ _ _ _ hr _ => rw [hr]; exact this
      | a _ _ _ _ _ _ _ _ hr _ => rw [hr]; exact this

/-- between two active ones only new blocks come -/
theorem Tr.between (h : Tr E call ks ops base n tr vl) {q : Nat} : ∀ j, q ≤ j → j ≤ n → (∀ i, q ≤ i → i < j → ¬ IsA E ops n tr i) →
    (tr j).s.nx = (tr q).s.nx ∧ (∀ x b, (tr j).s.h.get x = some b → (tr q).s.h.get x = some b ∨ ∃ i, q ≤ i ∧ i < j ∧ x = base + i ∧ IsN E ops n tr base i b) := by
  intro j
  induction j with
  | zero => intro hq _ _; have : q = 0 := by omega
            subst this; exact ⟨rfl, fun x b hb => .inl hb⟩
  | succ j ih =>
    intro hq hj hno
    by_cases e : q = j + 1
    · subst e; exact ⟨rfl, fun x b hb => .inl hb⟩
    · obtain ⟨h1, h2⟩ := ih (by omega) (by omega) (fun i a b => hno i a (by omega))
      obtain ⟨o, m, g1, _, g3⟩ := h.get (j := j) (by omega)
      have keep : (tr (j + 1)).s = (tr j).s → (tr (j + 1)).s.nx = (tr q).s.nx ∧ (∀ x b, (tr (j + 1)).s.h.get x = some b → (tr q).s.h.get x = some b ∨ ∃ i, q ≤ i ∧ i < j + 1 ∧ x = base + i ∧ IsN E ops n tr base i b) := by
        intro hs
        rw [hs]
        refine ⟨h1, fun x b hb => ?_⟩
        rcases h2 x b hb with g | ⟨i, a1, a2, a3, a4⟩
        · exact .inl g
        · exact .inr ⟨i, a1, by omega, a3, a4⟩
      cases g3 with
      | skip _ _ _ hs _ _ _ => exact keep hs
      | r _ _ _ _ _ _ hs _ _ _ => exact keep hs
      | a hw f hk _ _ _ _ _ _ _ => exact absurd ⟨by omega, o, f, g1, hw, hk⟩ (hno j (by omega) (by omega))
      | n hw f b0 hk hf _ hs _ _ _ =>
        rw [hs]
        refine ⟨h1, fun x b hb => ?_⟩
        simp only [T.get_set] at hb
        split at hb
        · rename_i e2
          cases hb
          exact .inr ⟨j, by omega, by omega, e2, by omega, o, f, _, g1, hw, hk, hf⟩
        · rcases h2 x b hb with g | ⟨i, a1, a2, a3, a4⟩
          · exact .inl g
          · exact .inr ⟨i, a1, by omega, a3, a4⟩

end
end Ev
