import Derived.Test.YtjmnhilkgjfllaaGreatDoorEvZb
set_option linter.unusedVariables false
set_option linter.unusedSimpArgs false
namespace Ev
open Go

theorem natIn_iff (b : Nat) : ∀ l : List Nat, natIn b l = true ↔ b ∈ l := by
  intro l
  induction l with
  | nil => simp [natIn]
  | cons c l ih =>
    simp only [natIn]
    cases hb : Nat.beq b c with
    | true => simp [Nat.eq_of_beq_eq_true hb]
    | false =>
      have : b ≠ c := by intro e; subst e; simp at hb
      simp [ih, this]

/-! ### the tail in the order of the text, taken apart -/
inductive TK (E : Env) (ks : Nat) (h0 : Look) (o : Oper) (a a' : A) (v : V) (u : Option (Nat × Blk)) : Prop where
  | pure (hg : o.guard = none) (rd : Bool) (f : Env → A → Look → Option V) (hk : kOf E (opK o.op) = .r rd f) (hf : f E a (fun _ => none) = some v) (ha : a' = putA ks a o.dst v) (hu : u = none)
  | store (hg : o.guard = none) (f : Env → CallF → A → St → VS) (hk : kOf E (opK o.op) = .a f) (b : Nat) (r : Row) (y : Blk) (hu : u = some (b, y)) (hv : v = .un) (ha : a' = putA ks a o.dst v)
      (hr : rowOf h0 b = some r) (hst : ∀ (call : CallF) (s : St), rowOf s.h.get b = some r → f E call a s = .ok .un ⟨s.h.set b y, s.nx⟩)

theorem TK.ha' {E : Env} {ks : Nat} {h0 : Look} {o : Oper} {a a' : A} {v : V} {u : Option (Nat × Blk)} (h : TK E ks h0 o a a' v u) : a' = putA ks a o.dst v := by cases h <;> assumption

theorem rowOf_congr {f g : Look} {b : Nat} (h : f b = g b) : rowOf f b = rowOf g b := by unfold rowOf; rw [h]

theorem tailOp_tk {E : Env} {ks : Nat} {h0 : Look} {o : Oper} {a a' : A} {s s' : St} {bs bs' : List Nat} (h : tailOp E ks o a s bs = some (a', s', bs')) (hs : ∀ x, x ∉ bs → s.h.get x = h0 x) :
    ∃ v u, TK E ks h0 o a a' v u ∧ s'.nx = s.nx ∧ ((u = none ∧ s' = s ∧ bs' = bs) ∨ ∃ b y, u = some (b, y) ∧ b ∉ bs ∧ bs' = b :: bs ∧ s'.h = s.h.set b y) := by
  unfold tailOp at h
  cases hg : o.guard with
  | some g => rw [hg] at h; cases h
  | none =>
    rw [hg] at h
    simp only [] at h
    cases hp : isPure o.op with
    | true =>
      rw [hp] at h
      simp only [] at h
      cases hk : opK o.op with
      | r rd f =>
        rw [hk] at h
        simp only [] at h
        cases hf : f E a (fun _ => none) with
        | none => rw [hf] at h; cases h
        | some v =>
          rw [hf] at h
          cases h
          exact ⟨v, none, .pure hg rd f (by rw [hk]; rfl) hf rfl rfl, rfl, .inl ⟨rfl, rfl, rfl⟩⟩
      | n _ => rw [hk] at h; cases h
      | a _ => rw [hk] at h; cases h
      | cv _ _ _ => rw [hk] at h; cases h
      | no => rw [hk] at h; cases h
    | false =>
      rw [hp] at h
      obtain ⟨dst, op, type, pos, after, guard⟩ := o
      cases op <;> simp only [reduceCtorEq] at h
      rename_i t x z
      unfold tailStore at h
      cases hP : opP a x with
      | none => rw [hP] at h; cases h
      | some bo =>
        obtain ⟨b, off⟩ := bo
        rw [hP] at h
        simp only [] at h
        cases hn : natIn b bs with
        | true => rw [hn] at h; cases h
        | false =>
          rw [hn] at h
          simp only [] at h
          have hnb : b ∉ bs := fun hm => by rw [(natIn_iff b bs).2 hm] at hn; cases hn
          cases hr : rowOf s.h.get b with
          | none => rw [hr] at h; cases h
          | some r =>
            rw [hr] at h
            simp only [] at h
            cases hle : Nat.ble r.sh off with
            | false => rw [hle] at h; cases h
            | true =>
              rw [hle] at h
              simp only [] at h
              cases hw : opW a z with
              | none => rw [hw] at h; cases h
              | some w =>
                rw [hw] at h
                simp only [] at h
                cases hst : store E t s b off w with
                | none => rw [hst] at h; cases h
                | some s1 =>
                  rw [hst] at h
                  cases h
                  obtain ⟨q, n, leaf, sh, anc⟩ := r
                  have key : ∃ y, ∀ s2 : St, rowOf s2.h.get b = some ⟨q, n, leaf, sh, anc⟩ → store E t s2 b off w = some ⟨s2.h.set b y, s2.nx⟩ := by
                    refine ⟨.row ⟨q.setL off w.cells, n, leaf, sh, anc⟩, fun s2 h2 => ?_⟩
                    unfold store at hst ⊢
                    cases hi : E.tab.get t with
                    | none => rw [hi] at hst; cases hst
                    | some i =>
                      rw [hi] at hst
                      simp only [] at hst ⊢
                      cases hb : Nat.beq (lenA w.cells 0) i.size with
                      | false => rw [hb] at hst; cases hst
                      | true =>
                        rw [hb] at hst
                        simp only [] at hst ⊢
                        unfold writeL at hst ⊢
                        rw [hr] at hst
                        rw [h2]
                        simp only [] at hst ⊢
                        cases hm : mayWrite ⟨q, n, leaf, sh, anc⟩ off w.cells with
                        | false => rw [hm] at hst; cases hst
                        | true =>
                          simp only [Option.some.injEq]
                          unfold writeR
                          obtain ⟨h2', nx2⟩ := s2
                          simp only []
                          have hle' : sh ≤ off := Nat.le_of_ble_eq_true hle
                          have : Nat.ble (Nat.succ off) sh = false := by
                            cases hb : Nat.ble (Nat.succ off) sh with
                            | false => rfl
                            | true => have := Nat.le_of_ble_eq_true hb; omega
                          rw [this]
                  obtain ⟨y, hy⟩ := key
                  have hs1 := hy s hr
                  rw [hst] at hs1
                  cases hs1
                  refine ⟨.un, some (b, y), .store hg _ rfl b ⟨q, n, leaf, sh, anc⟩ y rfl rfl rfl ?_ ?_, rfl, .inr ⟨b, y, rfl, hnb, rfl, rfl⟩⟩
                  · rw [← rowOf_congr (hs b hnb)]; exact hr
                  · intro call s2 h2
                    show aStore E a t x z s2 = _
                    unfold aStore
                    rw [hP]
                    simp only []
                    rw [hw]
                    simp only []
                    rw [hy s2 h2]
                    rfl

theorem tailOps_tr {E : Env} {ks : Nat} {h0 : Look} : ∀ (l : List Oper) (j : Nat) (a : A) (s : St) (bs : List Nat) (a' : A) (s' : St), tailOps E ks l a s bs = .ok a' s' → (∀ x, x ∉ bs → s.h.get x = h0 x) →
    ∃ (ta : Nat → A) (vl : Nat → V) (up : Nat → Option (Nat × Blk)), ta j = a ∧ ta (j + l.length) = a' ∧ s'.nx = s.nx ∧ (∀ i o, l[i]? = some o → TK E ks h0 o (ta (j + i)) (ta (j + i + 1)) (vl (j + i)) (up (j + i))) ∧
      (∀ i, i < j → up i = none) ∧ (∀ i b y, up i = some (b, y) → b ∉ bs) ∧ (∀ i i' b y b' y', i < i' → up i = some (b, y) → up i' = some (b', y') → b ≠ b') ∧
      (∀ x, (∃ i y, i < j + l.length ∧ up i = some (x, y) ∧ s'.h.get x = some y) ∨ ((∀ i y, up i ≠ some (x, y)) ∧ s'.h.get x = s.h.get x)) := by
  intro l
  induction l with
  | nil =>
    intro j a s bs a' s' h hs
    cases h
    refine ⟨fun _ => a, fun _ => .un, fun _ => none, rfl, rfl, rfl, fun i o h => by simp at h, fun _ _ => rfl, ?_, ?_, ?_⟩
    · intro i b y h; cases h
    · intro i i' b y b' y' _ h; cases h
    · intro x; right; exact ⟨fun i y h => (by cases h), rfl⟩
  | cons o l ih =>
    intro j a s bs a' s' h hs
    simp only [tailOps] at h
    cases ho : tailOp E ks o a s bs with
    | none => rw [ho] at h; cases h
    | some p =>
      obtain ⟨a1, s1, bs1⟩ := p
      rw [ho] at h
      simp only [] at h
      obtain ⟨v, u, htk, hnx, hu⟩ := tailOp_tk ho hs
      have hs1 : ∀ x, x ∉ bs1 → s1.h.get x = h0 x := by
        intro x hx
        rcases hu with ⟨_, rfl, rfl⟩ | ⟨b, y, _, hb, rfl, hh⟩
        · exact hs x hx
        · rw [hh, T.get_set]
          rw [if_neg (fun e => hx (by rw [e]; simp))]
          exact hs x (fun hm => hx (List.mem_cons_of_mem _ hm))
      obtain ⟨ta, vl, up, h1, h2, h3, h4, h5, h6, h7, h8⟩ := ih (j + 1) a1 s1 bs1 a' s' h hs1
      have upj : up j = none := h5 j (by omega)
      refine ⟨fun i => if i ≤ j then a else ta i, fun i => if i ≤ j then v else vl i, fun i => if i = j then u else up i, by simp, ?_, by rw [h3, hnx], ?_, ?_, ?_, ?_, ?_⟩
      · show (if j + (l.length + 1) ≤ j then a else ta (j + (l.length + 1))) = a'
        rw [if_neg (by omega), ← h2]; congr 1; omega
      · intro i o' hi
        cases i with
        | zero =>
          simp at hi; subst hi
          show TK E ks h0 o (if j + 0 ≤ j then a else ta (j + 0)) (if j + 0 + 1 ≤ j then a else ta (j + 0 + 1)) (if j + 0 ≤ j then v else vl (j + 0)) (if j + 0 = j then u else up (j + 0))
          rw [if_pos (by omega), if_neg (by omega), if_pos (by omega), if_pos (by omega), show j + 0 + 1 = j + 1 by omega, h1]
          exact htk
        | succ i =>
          simp at hi
          have := h4 i o' hi
          show TK E ks h0 o' (if j + (i + 1) ≤ j then a else ta (j + (i + 1))) (if j + (i + 1) + 1 ≤ j then a else ta (j + (i + 1) + 1)) (if j + (i + 1) ≤ j then v else vl (j + (i + 1))) (if j + (i + 1) = j then u else up (j + (i + 1)))
          rw [if_neg (by omega), if_neg (by omega), if_neg (by omega), if_neg (by omega)]
          rw [show j + 1 + i = j + (i + 1) by omega] at this
          exact this
      · intro i hi
        show (if i = j then u else up i) = none
        rw [if_neg (by omega)]
        exact h5 i (by omega)
      · intro i b y hb
        replace hb : (if i = j then u else up i) = some (b, y) := hb
        by_cases e : i = j
        · rw [if_pos e] at hb
          rcases hu with ⟨hn, _, _⟩ | ⟨b', y', hu, hnb, _, _⟩
          · rw [hn] at hb; cases hb
          · rw [hu] at hb; cases hb; exact hnb
        · rw [if_neg e] at hb
          have := h6 i b y hb
          rcases hu with ⟨_, _, rfl⟩ | ⟨b', y', _, _, rfl, _⟩
          · exact this
          · exact fun hm => this (List.mem_cons_of_mem _ hm)
      · intro i i' b y b' y' hlt hb hb'
        replace hb : (if i = j then u else up i) = some (b, y) := hb
        replace hb' : (if i' = j then u else up i') = some (b', y') := hb'
        by_cases e : i = j
        · rw [if_pos e] at hb
          rw [if_neg (by omega)] at hb'
          have := h6 i' b' y' hb'
          rcases hu with ⟨hn, _, _⟩ | ⟨b2, y2, hu, hnb, rfl, _⟩
          · rw [hn] at hb; cases hb
          · rw [hu] at hb; cases hb
            intro e2; subst e2; exact this (by simp)
        · rw [if_neg e] at hb
          by_cases e' : i' = j
          · have := h5 i (by omega)
            rw [this] at hb; cases hb
          · rw [if_neg e'] at hb'
            exact h7 i i' b y b' y' hlt hb hb'
      · intro x
        rcases h8 x with ⟨i, y, hi, hx, hg⟩ | ⟨hno, hg⟩
        · left
          refine ⟨i, y, by simp; omega, ?_, hg⟩
          show (if i = j then u else up i) = some (x, y)
          rw [if_neg (fun e => by rw [e, upj] at hx; cases hx)]
          exact hx
        · rcases hu with ⟨hn, rfl, _⟩ | ⟨b, y, hu, hnb, _, hh⟩
          · right
            refine ⟨fun i y => ?_, hg⟩
            show (if i = j then u else up i) ≠ some (x, y)
            split
            · rw [hn]; simp
            · exact hno i y
          · rw [hh, T.get_set] at hg
            by_cases e : x = b
            · left
              rw [if_pos e] at hg
              refine ⟨j, y, by simp, ?_, hg⟩
              show (if j = j then u else up j) = some (x, y)
              rw [if_pos rfl, hu, e]
            · right
              rw [if_neg e] at hg
              refine ⟨fun i y' => ?_, hg⟩
              show (if i = j then u else up i) ≠ some (x, y')
              split
              · rw [hu]; intro h; cases h; exact e rfl
              · exact hno i y'

/-! ### what lies in the heap when some of the stores are done -/
noncomputable def tGet (h0 : Look) (up : Nat → Option (Nat × Blk)) (S : Nat → Bool) : Nat → Look
  | 0, x => h0 x
  | k + 1, x => match S k, up k with
    | true, some (b, y) => if x = b then some y else tGet h0 up S k x
    | _, _ => tGet h0 up S k x

section
variable {h0 : Look} {up : Nat → Option (Nat × Blk)} {S : Nat → Bool}
theorem tGet_not {x : Nat} : ∀ k, (∀ i y, i < k → S i = true → up i ≠ some (x, y)) → tGet h0 up S k x = h0 x := by
  intro k
  induction k with
  | zero => intro _; rfl
  | succ k ih =>
    intro h
    have := ih (fun i y hi hs => h i y (by omega) hs)
    simp only [tGet]
    cases hs : S k with
    | false => exact this
    | true =>
      cases hu : up k with
      | none => exact this
      | some p =>
        obtain ⟨b, y⟩ := p
        simp only []
        rw [if_neg (fun e => h k y (by omega) hs (by rw [hu, e]))]
        exact this
theorem tGet_at {x : Nat} {y : Blk} (hd : ∀ i i' b y b' y', i < i' → up i = some (b, y) → up i' = some (b', y') → b ≠ b') {j : Nat} (hj : up j = some (x, y)) (hs : S j = true) : ∀ k, j < k → tGet h0 up S k x = some y := by
  intro k
  induction k with
  | zero => intro h; omega
  | succ k ih =>
    intro hk
    simp only [tGet]
    by_cases e : k = j
    · subst e; rw [hs, hj]; simp
    · have := ih (by omega)
      cases hs' : S k with
      | false => exact this
      | true =>
        cases hu : up k with
        | none => exact this
        | some p =>
          obtain ⟨b, y'⟩ := p
          simp only []
          rw [if_neg (hd j k x y b y' (by omega) hj hu)]
          exact this
theorem tGet_put {j : Nat} {b : Nat} {y : Blk} (hd : ∀ i i' b y b' y', i < i' → up i = some (b, y) → up i' = some (b', y') → b ≠ b') (hj : up j = some (b, y)) {k : Nat} (hk : j < k) (x : Nat) :
    tGet h0 up (put1 S j) k x = if x = b then some y else tGet h0 up S k x := by
  by_cases e : x = b
  · subst e; rw [if_pos rfl, tGet_at hd hj (put1_self S j) k hk]
  · rw [if_neg e]
    clear hk
    induction k with
    | zero => rfl
    | succ k ih =>
      simp only [tGet]
      by_cases e2 : k = j
      · subst e2
        rw [put1_self, hj]
        simp only []
        rw [if_neg e, ih]
        cases S k <;> simp [e]
      · rw [put1_ne e2, ih]
theorem tGet_skip {j : Nat} (hj : up j = none) (x : Nat) : ∀ k, tGet h0 up (put1 S j) k x = tGet h0 up S k x := by
  intro k
  induction k with
  | zero => rfl
  | succ k ih =>
    simp only [tGet]
    by_cases e2 : k = j
    · subst e2; rw [put1_self, hj]; cases S k <;> exact ih
    · rw [put1_ne e2, ih]
end

end Ev
