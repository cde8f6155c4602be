import Derived.Test.YtjmnhilkgjfllaaGreatDoorEvE
set_option linter.unusedVariables false
set_option linter.unusedSimpArgs false
namespace Ev
open Go

section
variable {P : Program} {w : World}

theorem setCell_heap (w : World) (c o : Nat) (v : Value) (arr : Array Value) (e : TypeId) (fz : Nat × Nat) (h : w.heap[c]? = some (.cells arr e fz)) :
    (w.setCell ⟨c, o, none⟩ v).heap.size = w.heap.size ∧ (w.setCell ⟨c, o, none⟩ v).heap[c]? = some (.cells (arr.setIfInBounds o v) e fz) ∧
    ∀ c', c' ≠ c → (w.setCell ⟨c, o, none⟩ v).heap[c']? = w.heap[c']? := by
  refine ⟨World.size_setCell _ _ _, ?_, fun c' hc => ?_⟩
  · simp [World.setCell, Array.getElem?_modify, h]
  · simp [World.setCell, Array.getElem?_modify, Ne.symm hc]

theorem setCells_heap (c : Nat) (e : TypeId) (fz : Nat × Nat) : ∀ (vs : List Value) (off : Nat) (w : World) (arr : Array Value), w.heap[c]? = some (.cells arr e fz) → off + vs.length ≤ arr.size →
    ∃ arr' : Array Value, (w.setCells c off vs).heap.size = w.heap.size ∧ (w.setCells c off vs).heap[c]? = some (.cells arr' e fz) ∧ arr'.size = arr.size ∧
      (∀ k, arr'[k]? = if off ≤ k ∧ k < off + vs.length then vs[k - off]? else arr[k]?) ∧ ∀ c', c' ≠ c → (w.setCells c off vs).heap[c']? = w.heap[c']?
  | [], off, w, arr, h, _ => ⟨arr, rfl, h, rfl, fun k => by rw [if_neg (by simp)], fun _ _ => rfl⟩
  | v :: vs, off, w, arr, h, hl => by
    simp only [List.length_cons] at hl
    obtain ⟨h1, h2, h3⟩ := setCell_heap w c off v arr e fz h
    obtain ⟨arr', g1, g2, g3, g4, g5⟩ := setCells_heap c e fz vs (off + 1) (w.setCell ⟨c, off, none⟩ v) (arr.setIfInBounds off v) h2 (by simp; omega)
    refine ⟨arr', by rw [← h1]; exact g1, g2, by rw [g3]; simp, fun k => ?_, fun c' hc => by rw [← h3 c' hc]; exact g5 c' hc⟩
    rw [g4 k]
    simp only [List.length_cons]
    by_cases h1 : off + 1 ≤ k ∧ k < off + 1 + vs.length
    · rw [if_pos h1, if_pos (by omega), show k - off = (k - (off + 1)) + 1 by omega]; rfl
    · rw [if_neg h1]
      by_cases h2 : k = off
      · subst h2; rw [if_pos (by omega), Nat.sub_self]; simp only [List.getElem?_cons_zero]; rw [Array.getElem?_setIfInBounds, if_pos rfl, if_pos (by omega)]
      · rw [if_neg (by omega), Array.getElem?_setIfInBounds, if_neg (Ne.symm h2)]

theorem setCells_same (c : Nat) : ∀ (vs : List Value) (off : Nat) (w : World), Same w (w.setCells c off vs)
  | [], _, _ => ⟨rfl, rfl⟩
  | v :: vs, off, w => setCells_same c vs (off + 1) (w.setCell ⟨c, off, none⟩ v)

theorem run_setCells {c off : Nat} {vs : List Value} {arr : Array Value} {e : TypeId} {fz : Nat × Nat} (h : w.heap[c]? = some (.cells arr e fz)) (hl : off + vs.length ≤ arr.size)
    (hf : ∀ j, off ≤ j → j < arr.size → ¬ (fz.1 ≤ j ∧ j < fz.2)) (h1 : ∀ v ∈ vs, v.oneCell' = true) :
    (storeCells ⟨c, off, none⟩ vs).run P w = .ok () (w.setCells c off vs) := by
  have := run_storeCells_cells (P := P) c off vs 0 w (fun j hj => ?_) (fun j hj => ?_) h1
  · simpa using this
  · simp [World.cell?, h]; omega
  · obtain ⟨lo, hi⟩ := fz
    have hh := hf (off + j) (by omega) (by omega)
    simp only [World.frozen?, h, Nat.add_zero]
    simp at hh ⊢
    exact hh

theorem kill_get (l : List Nat) : ∀ (h : T Blk) (x : Nat), (kill h l).get x = if x ∈ l then some .dead else h.get x := by
  induction l with
  | nil => intro h x; simp [kill]
  | cons b l ih =>
    intro h x
    show (kill (h.set b .dead) l).get x = _
    rw [ih, T.get_set]
    by_cases h1 : x ∈ l <;> by_cases h2 : x = b <;> simp [h1, h2]

theorem wr_alive {x : Blk} (h : wr x = true) : alive x = true := by cases x <;> first | rfl | (simp [wr] at h)

/-- a row that may be written is written from o on -/
theorem HRel.write {ρ : Mp} {look look' : Look} {nx : Nat} {H H' : Array Obj} (h : HRel ρ look nx H) {b o : Nat} {r r' : Row} {p : Place} {l : List C} {vs : List Value}
    (hb : look b = some (.row r)) (hlf : r.leaf = true) (hp : ρ b = some p) (hv : LRel ρ l vs) (hl : o + l.length ≤ r.n)
    {arr arr' : Array Value} {e : TypeId} {fz : Nat × Nat} (h0 : H[p.c]? = some (.cells arr e fz)) (h1 : H'[p.c]? = some (.cells arr' e fz)) (h2 : arr'.size = arr.size)
    (h3 : ∀ k, arr'[k]? = if p.o + o ≤ k ∧ k < p.o + o + vs.length then vs[k - (p.o + o)]? else arr[k]?) (h4 : ∀ c, c ≠ p.c → H'[c]? = H[c]?)
    (q1 : r'.q = r.q.setL o l) (q2 : r'.n = r.n) (q3 : r'.leaf = true) (q4 : r'.sh ≤ r.n) (q5 : r'.anc = [] → r.anc = [])
    (k1 : look' b = some (.row r')) (k2 : ∀ b', b' ≠ b → look' b' = look b' ∨ look' b' = some .dead)
    (k3 : ∀ b' r2 p', b' ≠ b → look' b' = some (.row r2) → look b' = some (.row r2) → ρ b' = some p' → p'.c = p.c → r2.leaf = false → p'.o + r2.n ≤ p.o + r.sh → b' ∈ r.anc → p'.o + r2.n ≤ p.o + o ∧ p'.o + r2.n ≤ p.o + r'.sh ∧ b' ∈ r'.anc) :
    HRel ρ look' nx H' := by
  have hvl := hv.length
  obtain ⟨p0, ob, e1, e2, arr0, e0, fz0, e3, hrow⟩ := h.blk b _ hb rfl
  rw [hp] at e1; cases e1
  rw [h0] at e2; cases e2; cases e3
  have old : ∀ b' x, b' ≠ b → look' b' = some x → alive x = true → look b' = some x := by
    intro b' x hne hx ha
    rcases k2 b' hne with g | g
    · rw [g] at hx; exact hx
    · rw [g] at hx; cases hx; cases ha
  refine ⟨h.dom, ?_, ?_⟩
  · intro b' x hx ha
    by_cases hne : b' = b
    · subst hne
      rw [k1] at hx; cases hx
      refine ⟨p, _, hp, h1, arr', e, fz, rfl, ⟨by rw [h2]; exact hrow.tot, by rw [q2]; exact hrow.kn, by rw [q2]; exact hrow.le, by rw [q2]; exact q4, ?_, fun _ => hrow.free hlf, fun _ ha => hrow.mark hlf (q5 ha)⟩⟩
      intro i x hi hx
      rw [q1, T.get_setL] at hx
      rw [h3]
      by_cases g : o ≤ i ∧ i < o + l.length
      · rw [if_pos g] at hx
        rw [if_pos (by omega)]
        obtain ⟨v, g1, g2⟩ := hv.get hx
        exact ⟨v, by rw [show p.o + i - (p.o + o) = i - o by omega]; exact g1, g2⟩
      · rw [if_neg g] at hx
        rw [if_neg (by omega)]
        exact hrow.cell i x (by omega) hx
    · have hx0 := old b' x hne hx ha
      obtain ⟨p', o', g1, g2, g3⟩ := h.blk b' x hx0 ha
      by_cases hc : p'.c = p.c
      · obtain ⟨r1, r2, s1, s2, s3, s4, s5⟩ := h.apart b _ b' x p p' hb hlf hx0 ha hne hp g1 hc.symm
        cases s1; subst s2
        obtain ⟨t1, _, _⟩ := k3 b' r2 p' hne hx hx0 g1 hc s3 s4 s5
        obtain ⟨arr2, e2, fz2, u1, u2⟩ := g3
        rw [hc, h0] at g2; cases g2; cases u1
        refine ⟨p', _, g1, by rw [hc]; exact h1, arr', e, fz, rfl, ⟨by rw [h2]; exact u2.tot, u2.kn, u2.le, u2.sh, ?_, (fun hh => by rw [s3] at hh; cases hh), (fun hh => by rw [s3] at hh; cases hh)⟩⟩
        intro i y hi hy
        rw [h3, if_neg (by omega)]
        exact u2.cell i y hi hy
      · exact ⟨p', o', g1, by rw [h4 _ hc]; exact g2, g3⟩
  · intro b1 x b2 x' p1 p2 hx hw hx' ha hne hp1 hp2 hc
    by_cases e1 : b1 = b
    · subst e1
      rw [k1] at hx; cases hx
      rw [hp] at hp1; cases hp1
      have hx0 := old b2 x' hne hx' ha
      obtain ⟨r1, r2, s1, s2, s3, s4, s5⟩ := h.apart b1 _ b2 x' p p2 hb hlf hx0 ha hne hp hp2 hc
      cases s1; subst s2
      obtain ⟨_, t2, t3⟩ := k3 b2 r2 p2 hne hx' hx0 hp2 hc.symm s3 s4 s5
      exact ⟨r', r2, rfl, rfl, s3, t2, t3⟩
    · have hx0 := old b1 x e1 hx (wr_alive hw)
      by_cases e2 : b2 = b
      · subst e2
        rw [hp] at hp2; cases hp2
        obtain ⟨r1, r2, s1, s2, s3, _, _⟩ := h.apart b1 x b2 _ p1 p hx0 hw hb rfl hne hp1 hp hc
        cases s2; rw [hlf] at s3; cases s3
      · have hx0' := old b2 x' e2 hx' ha
        exact h.apart b1 x b2 x' p1 p2 hx0 hw hx0' ha hne hp1 hp2 hc

theorem run_writeL {ρ : Mp} {s s' : St} (h : HRel ρ s.h.get s.nx w.heap) {b o : Nat} {l : List C} {vs : List Value} (hw : writeL s b o l = some s')
    {p : Place} (hp : ρ b = some p) (hv : LRel ρ l vs) : ∃ w', (storeCells ⟨p.c, p.o + o, none⟩ vs).run P w = .ok () w' ∧ Post ρ s w.heap ρ s' w'.heap ∧ Same w w' := by
  unfold writeL at hw
  cases e : rowOf s.h.get b with
  | none => rw [e] at hw; cases hw
  | some r =>
    rw [e] at hw
    simp only [] at hw
    cases em : mayWrite r o l with
    | false => rw [em] at hw; cases hw
    | true =>
      rw [em] at hw
      simp only [Option.some.injEq] at hw
      have hb := rowOf_some e
      obtain ⟨q, n, leaf, sh, anc⟩ := r
      obtain ⟨hh, nx⟩ := s
      simp only [mayWrite, Bool.and_eq_true, Nat.ble_eq, lenA_zero] at em
      obtain ⟨hlf, hl⟩ := em
      subst hlf
      have hl : o + l.length ≤ n := hl
      obtain ⟨p0, ob, e1, e2, arr, ty, fz, e3, hrow⟩ := h.blk b _ hb rfl
      rw [hp] at e1; cases e1; subst e3
      have hvl := hv.length
      have hrt := hrow.tot
      have hrl := hrow.le
      simp only at hrl
      obtain ⟨arr', g1, g2, g3, g4, g5⟩ := setCells_heap p.c ty fz vs (p.o + o) w arr e2 (by omega)
      refine ⟨_, run_setCells (P := P) e2 (by omega) (fun j h1 h2 => hrow.free rfl j (by omega) (by omega)) hv.one, ?_, setCells_same _ _ _ _⟩
      have hrel : HRel ρ s'.h.get nx (w.setCells p.c (p.o + o) vs).heap ∧ s'.nx = nx ∧ (∀ b' x, s'.h.get b' = some x → wr x = true → ∃ x0, hh.get b' = some x0 ∧ wr x0 = true) ∧ (∀ b' x, s'.h.get b' = some x → alive x = true → ∃ x0, hh.get b' = some x0 ∧ alive x0 = true) := by
        simp only [writeR] at hw
        cases ek : Nat.ble (Nat.succ o) sh with
        | true =>
          rw [ek] at hw
          simp only [] at hw
          subst hw
          refine ⟨?_, rfl, ?_, ?_⟩
          · refine h.write (r' := ⟨q.setL o l, n, true, 0, [b]⟩) hb rfl hp hv hl e2 g2 g3 g4 g5 rfl rfl rfl (Nat.zero_le _) (fun h => by cases h) (T.get_set_same _ _ _) ?_ ?_
            · intro b' hne
              rw [T.get_set_ne _ _ hne, kill_get]
              split
              · exact .inr rfl
              · exact .inl rfl
            · intro b' r2 p' hne hx hx0 hp' hc h1 h2 h3
              rw [T.get_set_ne _ _ hne, kill_get, if_pos h3] at hx
              cases hx
          · intro b' x hx hwx
            by_cases hne : b' = b
            · subst hne; exact ⟨_, hb, rfl⟩
            · simp only [T.get_set_ne _ _ hne, kill_get] at hx
              split at hx
              · cases hx; cases hwx
              · exact ⟨x, hx, hwx⟩
          · intro b' x hx hwx
            by_cases hne : b' = b
            · subst hne; exact ⟨_, hb, rfl⟩
            · simp only [T.get_set_ne _ _ hne, kill_get] at hx
              split at hx
              · cases hx; cases hwx
              · exact ⟨x, hx, hwx⟩
        | false =>
          rw [ek] at hw
          simp only [] at hw
          subst hw
          have hsh : ¬ o < sh := fun hh => by have := Nat.ble_eq_true_of_le (show Nat.succ o ≤ sh from hh); rw [this] at ek; cases ek
          refine ⟨?_, rfl, ?_, ?_⟩
          · refine h.write (r' := ⟨q.setL o l, n, true, sh, anc⟩) hb rfl hp hv hl e2 g2 g3 g4 g5 rfl rfl rfl hrow.sh (fun h => h) (T.get_set_same _ _ _) ?_ ?_
            · intro b' hne
              exact .inl (T.get_set_ne _ _ hne)
            · intro b' r2 p' hne hx hx0 hp' hc h1 h2 h3
              simp only at h2 h3
              exact ⟨by omega, h2, h3⟩
          · intro b' x hx hwx
            by_cases hne : b' = b
            · subst hne; exact ⟨_, hb, rfl⟩
            · simp only [T.get_set_ne _ _ hne] at hx
              exact ⟨x, hx, hwx⟩
          · intro b' x hx hwx
            by_cases hne : b' = b
            · subst hne; exact ⟨_, hb, rfl⟩
            · simp only [T.get_set_ne _ _ hne] at hx
              exact ⟨x, hx, hwx⟩
      obtain ⟨hrel, hnx, hwr, hal⟩ := hrel
      refine ⟨fun _ _ => rfl, by rw [hnx]; exact Nat.le_refl _, by rw [hnx]; exact hrel, Nat.le_of_eq g1.symm, ?_, ?_, ?_⟩
      · intro c hc hn
        exact g5 c (fun e => hn b _ p hb rfl hp e.symm)
      · intro b' x p' hx hwx hp' _
        obtain ⟨x0, k1, k2⟩ := hwr b' x hx hwx
        exact ⟨b', x0, p', k1, k2, hp', rfl⟩
      · intro b' x p' hx hwx hp' _
        obtain ⟨x0, k1, k2⟩ := hal b' x hx hwx
        exact ⟨b', x0, p', k1, k2, hp', rfl⟩
end
end Ev
