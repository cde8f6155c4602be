import Derived.Test.YtjmnhilkgjfllaaGreatDoorEvZh
set_option linter.unusedVariables false
set_option linter.unusedSimpArgs false
namespace Ev
open Go

/-! ### what has constant arguments and comes to a new slice of plain cells: reckoned once -/
def litW : W → Bool
  | .c x => litC x
  | _ => false
theorem litW_rel {l : List W} {ρ ρ' : Mp} {vs : List Value} (h : l.all litW = true) (hr : All2 (WRel ρ) l vs) : All2 (WRel ρ') l vs := by
  induction hr with
  | nil => exact .nil
  | @cons a b l r h1 _ ih =>
    simp only [List.all_cons, Bool.and_eq_true] at h
    refine .cons ?_ (ih h.2)
    cases a with
    | c x => exact litC_rel h.1 h1
    | agg l => cases h.1

noncomputable def memoRun (r : VS) (n z : Nat) (cells : List C) : Bool := match r with
  | .ok (.w (.c (.sl b o n' _ z'))) s1 => match rowOf s1.h.get b with
    | some r => match and r.leaf (and (Nat.beq n' n) (Nat.beq z' z)) with
      | true => match readL s1.h.get b o (Nat.mul n z) with
        | some l => sameL l cells
        | none => false
      | false => false
    | none => false
  | _ => false

theorem memoAt_some {z : Nat} {args : List W} {s s' : St} {v : V} : ∀ (ms : List (List W × Nat × List C)), memoAt z args s ms = .ok v s' →
    ∃ m ∈ ms, args = m.1 ∧ v = vc (.sl s.nx 0 m.2.1 none z) ∧ s' = s.new (.row (row0 m.2.2)) := by
  intro ms
  induction ms with
  | nil => intro h; cases h
  | cons m ms ih =>
    intro h
    simp only [memoAt] at h
    cases hb : sameWL args m.1 with
    | true =>
      rw [hb] at h
      cases h
      exact ⟨m, by simp, sameWL_eq hb, rfl, rfl⟩
    | false =>
      rw [hb] at h
      obtain ⟨m', h1, h2⟩ := ih h
      exact ⟨m', List.mem_cons_of_mem _ h1, h2⟩

section
variable {P : Program} {kps : List (Nat × Nat)} {exts : List (Nat × Ext)}

theorem ext_memo (hany : P.follows .mixedOrders = true) (ht : typesOk P = true) (hk : kps.all (fun p => fnOk P p.1) = true) (hx : ∀ p ∈ exts, ExtOne P P.globals.size p.1 p.2) {lf n f : Nat} (gs : List (Nat × List C)) (z : Nat)
    (hgs : gs.all (fun p => and (p.2.all plainC) (decide (p.1 < P.globals.size))) = true) (hf : (pairT exts .nil).get f = none) (ms : List (List W × Nat × List C))
    (hlit : ms.all (fun m => and (m.1.all litW) (m.2.2.all plainC)) = true)
    (hr : ∀ m ∈ ms, memoRun (runF (envOf P exts kps) lf (n + 1) f m.1 (st0 gs P.globals.size)) m.2.1 z m.2.2 = true) : ExtOne P P.globals.size f (.memo ms gs z) := by
  intro args s v s' ρ w vals h hg hr' hv
  left
  have hr' : (match rowsAre s.h.get gs with | true => memoAt z args s ms | false => VS.no) = .ok v s' := hr'
  cases ha : rowsAre s.h.get gs with
  | false => rw [ha] at hr'; cases hr'
  | true =>
    rw [ha] at hr'
    obtain ⟨m, hm, rfl, rfl, rfl⟩ := memoAt_some ms hr'
    obtain ⟨margs, k, cells⟩ := m
    have hl := List.all_eq_true.1 hlit _ hm
    rw [Bool.and_eq_true] at hl
    have hrun := hr _ hm
    simp only at hrun hl hv ⊢
    unfold memoRun at hrun
    split at hrun
    · rename_i b o k' cap z' s1 hs1
      cases hrow : rowOf s1.h.get b with
      | none => rw [hrow] at hrun; cases hrun
      | some r =>
        rw [hrow] at hrun
        simp only [] at hrun
        cases hc : and r.leaf (and (Nat.beq k' k) (Nat.beq z' z)) with
        | false => rw [hc] at hrun; cases hrun
        | true =>
          rw [hc] at hrun
          simp only [] at hrun
          rw [Bool.and_eq_true, Bool.and_eq_true] at hc
          obtain ⟨hleaf, hk1, hz1⟩ := hc
          have hk1 := Nat.eq_of_beq_eq_true hk1
          have hz1 := Nat.eq_of_beq_eq_true hz1
          subst hk1 hz1
          cases hl2 : readL s1.h.get b o (Nat.mul k' z') with
          | none => rw [hl2] at hrun; cases hrun
          | some l =>
            rw [hl2] at hrun
            have hcells := sameL_eq hrun
            subst hcells
            have hrel := hrel_rows h gs hgs ha
            have hgok : GOk P.globals.size (fun g => if g < P.globals.size then ρ g else none) := fun g hlt => by
              obtain ⟨p, q1, q2⟩ := hg g hlt
              exact ⟨p, by simp only [if_pos hlt]; exact q1, q2⟩
            have := run_calls' hany ht hk hx hf hrel hgok hs1 (litW_rel hl.1 hv)
            refine ⟨this.1, Calls.mono this.2 ?_⟩
            rintro e w' ⟨u, rfl, ρ1, ⟨hp, hsm⟩, hu⟩
            have hkept := st0_frame hp
            have hstay := HRel.stays h hkept
            obtain ⟨p, ad, cp, hpb, rfl, hs⟩ := hu
            obtain ⟨r', q1, q2, q3⟩ := readL_some hl2
            have hrr : r' = r := by
              unfold rowOf at hrow
              rw [q1] at hrow
              cases hrow; rfl
            subst hrr
            obtain ⟨p2, ob, g1, g2, arr, ty, fz, rfl, hrow2⟩ := hp.rel.blk b _ q1 rfl
            rw [hpb] at g1; cases g1
            obtain ⟨vs, k1, k2, k3⟩ := getL_rel hrow2 q2 q3
            have hlen : l.length = k' * z' := by rw [k1.length, k2]; rfl
            have hfresh : w.heap.size ≤ p.c := by
              rcases Nat.lt_or_ge p.c w.heap.size with g | g
              · obtain ⟨b0, x0, p0, e1, e2, _⟩ := hp.wrs b _ p q1 hleaf hpb g
                obtain ⟨l0, _, rfl⟩ := rows0_get gs b0 x0 e1
                cases e2
              · exact g
            have hq2 : o + k' * z' ≤ r'.n := q2
            have hle := hrow2.le
            have hkn := hrow2.kn
            have htot := hrow2.tot
            obtain ⟨p', hp'⟩ : ∃ p' : Place, p' = ⟨p.c, p.o + o, p.tot, k' * z'⟩ := ⟨_, rfl⟩
            have hnone : ρ s.nx = none := h.fresh (Nat.le_refl _)
            have hle' : ρ.le (ρ.put s.nx p') := Mp.le_put hnone
            have old : ∀ b x, (s.new (.row (row0 l))).h.get b = some x → b ≠ s.nx → s.h.get b = some x := by
              intro b x hx hb
              obtain ⟨hh, nx⟩ := s
              have hx : (hh.set nx (.row (row0 l))).get b = some x := hx
              rw [T.get_set, if_neg hb] at hx
              exact hx
            have new : (s.new (.row (row0 l))).h.get s.nx = some (.row (row0 l)) := by
              obtain ⟨hh, nx⟩ := s
              show (hh.set nx (.row (row0 l))).get nx = _
              rw [T.get_set, if_pos rfl]
            have newIs : ∀ x, (s.new (.row (row0 l))).h.get s.nx = some x → x = .row (row0 l) := fun x hx => by rw [new] at hx; cases hx; rfl
            have hnx : (s.new (.row (row0 l))).nx = s.nx + 1 := by obtain ⟨hh, nx⟩ := s; rfl
            have hrown : (row0 l).n = k' * z' := by
              show lenA l 0 = _
              rw [lenA_zero, hlen]
            have hput : ∀ b, b ≠ s.nx → (ρ.put s.nx p') b = ρ b := fun b hb => by rw [Mp.put, if_neg hb]
            have hpnew : (ρ.put s.nx p') s.nx = some p' := by rw [Mp.put, if_pos rfl]
            have hlt : ∀ b x q, s.h.get b = some x → alive x = true → ρ b = some q → q.c < w.heap.size := by
              intro b x q hx ha hq
              obtain ⟨q', o', u1, u2, _⟩ := h.blk b x hx ha
              rw [hq] at u1; cases u1
              exact (Array.getElem?_eq_some_iff.1 u2).1
            refine ⟨_, rfl, ρ.put s.nx p', ⟨⟨fun b hb => hput b (by omega), by rw [hnx]; omega, ⟨?_, ?_, ?_⟩, hp.sz, fun c hc _ => hkept c hc, ?_, ?_⟩, hsm⟩, ⟨p', ad, cp, hpnew, rfl, ?_⟩⟩
            · intro b q hb
              rw [hnx]
              by_cases e : b = s.nx
              · omega
              · rw [hput b e] at hb
                have := h.dom b q hb
                omega
            · intro b x hx ha'
              by_cases e : b = s.nx
              · subst e
                have := newIs x hx
                subst this
                refine ⟨p', _, hpnew, by rw [hp']; exact g2, arr, ty, fz, rfl, ?_⟩
                subst hp'
                refine ⟨htot, hrown, by rw [hrown]; simp only; omega, Nat.zero_le _, ?_, (fun hl => by cases hl), (fun hl => by cases hl)⟩
                intro i x hi hx
                rw [hrown] at hi
                have hx' : (T.ofL l).get i = some x := hx
                rw [T.get_ofL] at hx'
                obtain ⟨v, y1, y2⟩ := k1.get hx'
                refine ⟨v, ?_, plainC_rel (List.all_eq_true.1 hl.2 x (List.mem_of_getElem? hx')) y2⟩
                rw [k3 i hi]; exact y1
              · obtain ⟨q, o', u1, u2, u3⟩ := hstay.blk b x (old b x hx e) ha'
                exact ⟨q, o', by rw [hput b e]; exact u1, u2, u3.mono hle'⟩
            · intro b x b' x' q q' hx hw' hx' ha' hne hq hq' hcc
              have e : b ≠ s.nx := by
                intro e
                subst e
                have := newIs x hx
                subst this
                cases hw'
              rw [hput b e] at hq
              have hxo := old b x hx e
              by_cases e' : b' = s.nx
              · subst e'
                rw [hpnew] at hq'; cases hq'
                have := hlt b x q hxo (wr_alive hw') hq
                rw [hcc, hp'] at this
                simp only at this
                omega
              · rw [hput b' e'] at hq'
                exact h.apart b x b' x' q q' hxo hw' (old b' x' hx' e') ha' hne hq hq' hcc
            · intro b x q hx hw' hq hc
              have e : b ≠ s.nx := by
                intro e
                subst e
                have := newIs x hx
                subst this
                cases hw'
              rw [hput b e] at hq
              exact ⟨b, x, q, old b x hx e, hw', hq, rfl⟩
            · intro b x q hx ha' hq hc
              by_cases e : b = s.nx
              · subst e
                rw [hpnew] at hq; cases hq
                rw [hp'] at hc
                simp only at hc
                omega
              · rw [hput b e] at hq
                exact ⟨b, x, q, old b x hx e, ha', hq, rfl⟩
            · subst hp'
              have hst := hs.tot
              refine ⟨hs.zpos, hs.le, fun k hk => (by cases hk), fun _ => ⟨?_, ?_⟩, ?_, ?_⟩
              · simp only
                have := Nat.mul_le_mul_right z' hs.le
                omega
              · simp only [Nat.add_zero]
                cases cap with
                | some kk => exact .inl (hs.ex kk rfl).2.2
                | none => exact (hs.op rfl).2
              · simp only; omega
              · simp only; omega
    · cases hrun
end
end Ev
