import Derived.Test.YtjmnhilkgjfllaaGreatDoorEvZa
set_option linter.unusedVariables false
set_option linter.unusedSimpArgs false
namespace Ev
open Go

section
variable {P : Program} {w : World} {E : Env} {call : CallF} {ks nt ng : Nat} {ops : List Oper} {base n : Nat} {tr : Nat → Rg} {vl : Nat → V} {ρ0 : Mp} {s0 : St} {H0 : Array Obj} {w0 : World} {S : Nat → Bool} {act act0 : Act} {q : Nat} {ρ : Mp}

def put1 (S : Nat → Bool) (j : Nat) : Nat → Bool := fun i => decide (i = j) || S i
theorem put1_self (S : Nat → Bool) (j : Nat) : put1 S j j = true := by simp [put1]
theorem put1_ne {S : Nat → Bool} {i j : Nat} (h : i ≠ j) : put1 S j i = S i := by simp [put1, h]
theorem put1_of {S : Nat → Bool} {i j : Nat} (h : S i = true) : put1 S j i = true := by simp [put1, h]

theorem opRel' {a : A} {x : Operand} (ht : ∀ t, x = .tmp t → VRel ρ (a.get t) (act.tmps.getD t undef)) (hg : GOk ng ρ) (hx : opndOk ng x = true) : OpRel ρ a act.eval x := by
  cases x with
  | tmp t => exact ht t rfl
  | const v => exact conv_rel v
  | global g =>
    obtain ⟨p, h1, h2, h3⟩ := hg g (Nat.le_of_ble_eq_true hx)
    refine ⟨p, h1, ?_⟩
    show Value.pointer (some ⟨g, 0, none⟩) = .pointer (some ⟨p.c, p.o + 0, none⟩)
    rw [h2, h3]
  | func f => exact ⟨#[], rfl, .nil⟩

theorem DInv.step (hE : EnvOk E P) (hcall : CallOk P ng call) (ht : Tr E call ks ops base n tr vl) (h : DInv E ops base n tr vl nt ρ0 s0 H0 w0 act0 S act w q ρ)
    (h0 : HRel ρ0 s0.h.get s0.nx H0) (hg0 : GOk ng ρ0) (hb0 : s0.nx = base) (hops : ∀ o ∈ ops, operOk nt ng o = true)
    {j : Nat} {o : Oper} {m : Nat} (hjn : j < n) (ho : ops[j]? = some o) (hm : (masks ops)[j]? = some m) (hkd : Kd E call ks ops o j m base (tr j) (tr (j + 1)) (vl j)) (hs : S j = false)
    (hin : ∀ i, m.testBit i = true → S i = true) (hcl : ∀ i mi, S i = true → (masks ops)[i]? = some mi → ∀ k, mi.testBit k = true → S k = true)
    {K : Act → World → Prop} {Q : Exit → Act → World → Prop} (hK : ∀ act' w' q' ρ', DInv E ops base n tr vl nt ρ0 s0 H0 w0 act0 (put1 S j) act' w' q' ρ' → K act' w') : wpOp P ops.toArray Q j K act w := by
  have hnl := ht.nl
  have hoper := hops o (List.mem_of_getElem? ho)
  have hg : GOk ng ρ := fun g hn => by
    obtain ⟨p, h1, h2⟩ := hg0 g hn
    exact ⟨p, by rw [h.post.ext g (h0.dom g p h1)]; exact h1, h2⟩
  have early : ∀ t, Looks ops o t → ∀ i, i < j → dstAt ops i = some t → S i = true := by
    intro t hl i hi hd
    have hx : ops[i]? = some ops[i] := List.getElem?_eq_getElem (by omega)
    rcases (opsOk_spec ht.ok ho hm).2 i _ hx hi with g | g
    · exact hin i g
    · have hd' : (ops[i]).dst = some t := by unfold dstAt at hd; rw [hx] at hd; exact hd
      exact absurd hl ((apart_looks g).1 t hd').1
  have late : ∀ t, (Looks ops o t ∨ o.dst = some t) → ∀ i, j < i → i < n → dstAt ops i = some t → S i = false := by
    intro t hl i hi hin' hd
    cases hsi : S i with
    | false => rfl
    | true =>
      exfalso
      obtain ⟨x, mi, k1, k2, _⟩ := ht.get hin'
      have hd' : x.dst = some t := by unfold dstAt at hd; rw [k1] at hd; exact hd
      rcases (opsOk_spec ht.ok k1 k2).2 j o ho hi with g | g
      · have := hcl i mi hsi k2 j g
        rw [hs] at this; cases this
      · rcases hl with hl | hl
        · exact (apart_looks g).2 t hd' hl
        · exact ((apart_looks g).1 t hl).2 hd'
  have hl : ∀ t, Looks ops o t → VRel ρ ((tr j).a.get t) (act.tmps.getD t undef) := by
    intro t hlk
    rw [ht.temps j (by omega) t, ← lastV_eq (S := S) (early t hlk) n (by omega) (fun i h1 h2 h3 => by
      by_cases e : i = j
      · subst e; exact hs
      · exact late t (.inl hlk) i (by omega) h2 h3)]
    exact h.temps t
  have hopr : ∀ x ∈ o.op.operands, OpRel ρ (tr j).a act.eval x := by
    intro x hx
    have h2 := hoper
    unfold operOk at h2
    rw [Bool.and_eq_true, List.all_eq_true] at h2
    refine opRel' (fun t e => hl t (.inl ?_)) hg (h2.2 x (by simpa using hx))
    subst e; simpa using hx
  have htemps : ∀ (ρ' : Mp) (u : Value), ρ.le ρ' → VRel ρ' (vl j) u → ∀ t, VRel ρ' (lastV ops (tr 0).a vl (put1 S j) n t) ((act.put o.dst u).tmps.getD t undef) := by
    intro ρ' u hle hv t
    by_cases hd : o.dst = some t
    · have hda : dstAt ops j = some t := by unfold dstAt; rw [ho]; exact hd
      rw [lastV_at hda (put1_self S j) n hjn (fun i h1 h2 h3 => by rw [put1_ne (by omega)]; exact late t (.inr hd) i h1 h2 h3)]
      have h2 := hoper
      unfold operOk at h2
      rw [Bool.and_eq_true, hd] at h2
      have htn : t + 1 ≤ nt := Nat.le_of_ble_eq_true h2.1
      have := h.sz
      rw [hd]
      show VRel ρ' (vl j) ((act.tmps.setIfInBounds t u).getD t undef)
      have hts : t < act.tmps.size := by omega
      simp [hts]; exact hv
    · rw [lastV_same (S := S) n (fun i h1 h2 => by
        rw [put1_ne]
        intro e; subst e
        unfold dstAt at h2; rw [ho] at h2; exact hd h2)]
      have : (act.put o.dst u).tmps.getD t undef = act.tmps.getD t undef := by
        cases hdd : o.dst with
        | none => rfl
        | some d =>
          have hne : d ≠ t := fun e => hd (by rw [hdd, e])
          show (act.tmps.setIfInBounds d u).getD t undef = _
          simp [Array.getD_eq_getD_getElem?, Array.getElem?_setIfInBounds_ne hne]
      rw [this]
      exact (h.temps t).mono hle
  -- neither an active one nor a new block
  have plain : (¬ IsA E ops n tr j) → (∀ b, ¬ IsN E ops n tr base j b) → ∀ u, VRel ρ (vl j) u → DInv E ops base n tr vl nt ρ0 s0 H0 w0 act0 (put1 S j) (act.put o.dst u) w q ρ := by
    intro nA nN u hv
    refine ⟨h.qn, ?_, ?_, fun i hi hk => put1_of (h.pre i hi hk), h.post, h.nx, ?_, ?_, ?_, htemps ρ u (Mp.le_refl ρ) hv, by rw [put_size]; exact h.sz, by rw [put_defers]; exact h.d, h.sm⟩
    · rcases h.hq with g | ⟨i, g1, g2, g3⟩
      · exact .inl g
      · exact .inr ⟨i, g1, g2, put1_of g3⟩
    · intro i hA hsi
      by_cases e : i = j
      · subst e; exact absurd hA nA
      · rw [put1_ne e] at hsi; exact h.aS i hA hsi
    · intro i b hi hn hsi
      have e : i ≠ j := fun e => by subst e; exact nN b hn
      rw [put1_ne e] at hsi; exact h.exI i b hi hn hsi
    · intro i i' b b' p p' hi hi' hn hn' hsi hsi' hne
      have e : i ≠ j := fun e => by subst e; exact nN b hn
      have e' : i' ≠ j := fun e => by subst e; exact nN b' hn'
      rw [put1_ne e] at hsi; rw [put1_ne e'] at hsi'
      exact h.exD i i' b b' p p' hi hi' hn hn' hsi hsi' hne
    · intro i b hi hn hsi
      have e : i ≠ j := fun e => by subst e; exact nN b hn
      rw [put1_ne e] at hsi; exact h.exN i b hi hn hsi
  unfold wpOp
  rw [List.getElem?_toArray, ho]
  simp only []
  cases hkd with
  | skip hw hv ha hst hgs hrs he =>
    have hwant := wanted_ok' hl hw
    rw [hwant]
    simp only [Bool.false_eq_true, if_false]
    refine hK _ _ q ρ (plain ?_ ?_ undef (by rw [hv]; exact ⟨#[], rfl, .nil⟩))
    · rintro ⟨_, o', f, q1, q2, q3⟩; rw [ho] at q1; cases q1; rw [hw] at q2; cases q2
    · rintro b ⟨_, o', f, v, q1, q2, q3, q4⟩; rw [ho] at q1; cases q1; rw [hw] at q2; cases q2
  | r hw rd f hk hf ha hst hgs he hr =>
    have hwant := wanted_ok' hl hw
    rw [hwant]
    simp only [if_true]
    left
    have nA : ¬ IsA E ops n tr j := by rintro ⟨_, o', f', q1, q2, q3⟩; rw [ho] at q1; cases q1; rw [hk] at q3; cases q3
    have nN : ∀ b, ¬ IsN E ops n tr base j b := by rintro b ⟨_, o', f', v, q1, q2, q3, q4⟩; rw [ho] at q1; cases q1; rw [hk] at q3; cases q3
    have look : ∃ look, Sees ρ look w.heap ∧ f E (tr j).a look = some (vl j) := by
      rcases hr with ⟨rfl, _⟩ | ⟨rfl, hbk, _⟩
      · exact ⟨fun _ => none, (fun x b p hx => by cases hx), by rw [← hf]; exact r_blind o.op hk _ _⟩
      · by_cases hqj : q ≤ j
        · by_cases hall : ∀ i, q ≤ i → i < j → ¬ IsA E ops n tr i
          · exact ⟨_, h.sees ht hqj (by omega) hall, hf⟩
          · -- the first active one that is not yet done
            have hex : ∃ i0, q ≤ i0 ∧ i0 < j ∧ IsA E ops n tr i0 ∧ ∀ i, q ≤ i → i < i0 → ¬ IsA E ops n tr i := by
              have : ∃ i, q ≤ i ∧ i < j ∧ IsA E ops n tr i := by
                apply Classical.byContradiction
                intro hn
                exact hall fun i a b c => hn ⟨i, a, b, c⟩
              obtain ⟨i, hi⟩ := this
              induction i using Nat.strongRecOn with
              | _ i ih =>
                by_cases hmin : ∀ k, q ≤ k → k < i → ¬ IsA E ops n tr k
                · exact ⟨i, hi.1, hi.2.1, hi.2.2, hmin⟩
                · have : ∃ k, q ≤ k ∧ k < i ∧ IsA E ops n tr k := by
                    apply Classical.byContradiction
                    intro hn
                    exact hmin fun k a b c => hn ⟨k, a, b, c⟩
                  obtain ⟨k, k1, k2, k3⟩ := this
                  exact ih k k2 ⟨k1, by omega, k3⟩
            obtain ⟨i0, e1, e2, e3, e4⟩ := hex
            have hmem := ht.gs j (by omega) i0 e2 e3
            have hbit : m.testBit i0 = false := by
              cases hb : m.testBit i0 with
              | false => rfl
              | true => have := h.aS i0 e3 (hin i0 hb); omega
            exact ⟨_, h.sees ht e1 (by omega) e4, backs_spec _ hbk i0 _ hmem hbit⟩
        · rcases h.hq with g | ⟨i, g1, g2, g3⟩
          · omega
          · have hij : j ≠ i := fun e => by subst e; exact nA g2
            obtain ⟨oi, mi, k1, k2, k3⟩ := ht.get (j := i) g2.lt
            have hrd := ht.rs i (by have := g2.lt; omega) j (by omega) o f ho hw hk
            obtain ⟨_, oi', fi, l1, l2, l3⟩ := g2
            rw [k1] at l1; cases l1
            cases k3 with
            | skip hw' _ _ _ _ _ _ => rw [hw'] at l2; cases l2
            | r hw' rd' f' hk' _ _ _ _ _ _ => rw [hk'] at l3; cases l3
            | n hw' f' b' hk' _ _ _ _ _ _ => rw [hk'] at l3; cases l3
            | a hw' f' hk' hf' ha' hm' hfo _ _ _ =>
              have hbit : mi.testBit j = false := by
                cases hb : mi.testBit j with
                | false => rfl
                | true => have := hcl i mi g3 k2 j hb; rw [hs] at this; cases this
              have := fores_spec _ hfo _ hrd hbit
              refine ⟨(tr q).s.h.get, h.post.rel.sees, ?_⟩
              rw [g1]; exact this
    obtain ⟨look, hsee, hval⟩ := look
    obtain ⟨u, r1, r2⟩ := r_sound hE hsee o hopr hk hval
    exact upon_value r1 (hK _ _ q ρ (plain nA nN u r2))
  | n hw f b hk hf ha hst hgs hrs he =>
    have hwant := wanted_ok' hl hw
    rw [hwant]
    simp only [if_true]
    left
    have hN : IsN E ops n tr base j b := ⟨hjn, o, f, _, ho, hw, hk, hf⟩
    have nA : ¬ IsA E ops n tr j := by rintro ⟨_, o', f', q1, q2, q3⟩; rw [ho] at q1; cases q1; rw [hk] at q3; cases q3
    have hqj : q ≤ j := by
      rcases Nat.lt_or_ge j q with g | g
      · have := h.pre j g (.inr ⟨b, hN⟩); rw [hs] at this; cases this
      · exact g
    have hnone := h.exN j b hqj hN hs
    obtain ⟨u, w', p, ob, q1, q2, q3, q4, q5⟩ := n_sound (P := P) (w := w) hE o hopr hk hf
    have hle : ρ.le (ρ.put (base + j) p) := Mp.le_put hnone
    have hnx := h.nx
    have old : ∀ i, i ≠ j → (ρ.put (base + j) p) (base + i) = ρ (base + i) := fun i hi => by rw [Mp.put, if_neg (by omega)]
    have keep : ∀ i b', q ≤ i → IsN E ops n tr base i b' → S i = true → ∃ p' o', ρ (base + i) = some p' ∧ w'.heap[p'.c]? = some o' ∧ BlkRel (ρ.put (base + j) p) p' b' o' ∧ H0.size ≤ p'.c ∧ p'.c < w.heap.size ∧
        ∀ c y pc, (tr q).s.h.get c = some y → alive y = true → (ρ.put (base + j) p) c = some pc → pc.c ≠ p'.c := by
      intro i b' hi hn hsi
      obtain ⟨p', o', e1, e2, e3, e4, e5⟩ := h.exI i b' hi hn hsi
      have hlt := (Array.getElem?_eq_some_iff.1 e2).1
      refine ⟨p', o', e1, by rw [q2.1, Array.getElem?_push, if_neg (by omega)]; exact e2, e3.mono hle, e4, hlt, ?_⟩
      intro c y pc hc ha hpc
      obtain ⟨pc', _, u1, _⟩ := h.post.rel.blk c y hc ha
      have : c ≠ base + j := fun e => by rw [e, hnone] at u1; cases u1
      rw [Mp.put, if_neg this] at hpc
      exact e5 c y pc hc ha hpc
    refine upon_value q1 (hK _ _ q (ρ.put (base + j) p) ?_)
    refine ⟨h.qn, ?_, ?_, fun i hi hk => put1_of (h.pre i hi hk), ?_, h.nx, ?_, ?_, ?_, htemps _ u hle q5, by rw [put_size]; exact h.sz, by rw [put_defers]; exact h.d, h.sm.trans q2.2⟩
    · rcases h.hq with g | ⟨i, g1, g2, g3⟩
      · exact .inl g
      · exact .inr ⟨i, g1, g2, put1_of g3⟩
    · intro i hA hsi
      by_cases e : i = j
      · subst e; exact absurd hA nA
      · rw [put1_ne e] at hsi; exact h.aS i hA hsi
    · rw [q2.1]; exact h.post.more (by omega) (by omega) hnone q3
    · intro i b' hi hn hsi
      by_cases e : i = j
      · subst e
        have hbb := IsN.uniq hn hN
        subst hbb
        refine ⟨p, ob, by rw [Mp.put, if_pos rfl], by rw [q2.1, q3]; simp, q4.mono hle, by have := h.post.sz; omega, ?_⟩
        intro c y pc hc ha hpc
        obtain ⟨pc', o', u1, u2, _⟩ := h.post.rel.blk c y hc ha
        have : c ≠ base + i := fun e => by rw [e, hnone] at u1; cases u1
        rw [Mp.put, if_neg this, u1] at hpc
        cases hpc
        have := (Array.getElem?_eq_some_iff.1 u2).1
        omega
      · rw [put1_ne e] at hsi
        obtain ⟨p', o', e1, e2, e3, e4, _, e5⟩ := keep i b' hi hn hsi
        exact ⟨p', o', by rw [old i e]; exact e1, e2, e3, e4, e5⟩
    · intro i i' b1 b2 p1 p2 hi hi' hn hn' hsi hsi' hne hp1 hp2
      by_cases e : i = j
      · subst e
        rw [Mp.put, if_pos rfl] at hp1; cases hp1
        have e' : i' ≠ i := fun e => hne e.symm
        rw [put1_ne e'] at hsi'
        rw [old i' e'] at hp2
        obtain ⟨p', o', e1, _, _, _, e4, _⟩ := keep i' b2 hi' hn' hsi'
        rw [e1] at hp2; cases hp2
        omega
      · rw [put1_ne e] at hsi
        rw [old i e] at hp1
        by_cases e' : i' = j
        · subst e'
          rw [Mp.put, if_pos rfl] at hp2; cases hp2
          obtain ⟨p', o', e1, _, _, _, e4, _⟩ := keep i b1 hi hn hsi
          rw [e1] at hp1; cases hp1
          omega
        · rw [put1_ne e'] at hsi'
          rw [old i' e'] at hp2
          exact h.exD i i' b1 b2 p1 p2 hi hi' hn hn' hsi hsi' hne hp1 hp2
    · intro i b' hi hn hsi
      have e : i ≠ j := fun e => by subst e; rw [put1_self] at hsi; cases hsi
      rw [put1_ne e] at hsi
      rw [old i e]; exact h.exN i b' hi hn hsi
  | a hw f hk hf ha hmm hfo hgs hrs he =>
    have hwant := wanted_ok' hl hw
    rw [hwant]
    simp only [if_true]
    left
    have hA : IsA E ops n tr j := ⟨hjn, o, f, ho, hw, hk⟩
    have nN : ∀ b, ¬ IsN E ops n tr base j b := by rintro b ⟨_, o', f', v, q1, q2, q3, q4⟩; rw [ho] at q1; cases q1; rw [hk] at q3; cases q3
    have ahead : ∀ i, i < j → (IsA E ops n tr i ∨ ∃ b, IsN E ops n tr base i b) → S i = true := by
      intro i hi hk'
      have h1 := ht.eff j (by omega) i hi hk'
      have h2 := congrArg (fun x => x.testBit i) hmm
      have h3 : (Nat.land (tr j).eff m).testBit i = ((tr j).eff.testBit i && m.testBit i) := Nat.testBit_and _ _ _
      simp only [h3, h1, Bool.true_and] at h2
      exact hin i h2
    have hqj : q ≤ j := by
      rcases h.hq with g | ⟨i, g1, g2, g3⟩
      · omega
      · rcases Nat.lt_or_ge j i with g | g
        · have h4 := h.pre j (by omega) (.inl hA); rw [hs] at h4; cases h4
        · have : i ≠ j := fun e => by subst e; rw [hs] at g3; cases g3
          omega
    have hno : ∀ i, q ≤ i → i < j → ¬ IsA E ops n tr i := fun i a b c => by have := h.aS i c (ahead i b (.inl c)); omega
    have hN : ∀ i b, q ≤ i → i < j → IsN E ops n tr base i b → S i = true := fun i b _ a c => ahead i a (.inr ⟨b, c⟩)
    have hadv := h.advance ht hqj (by omega) hno hN
    have hnxj := (ht.between j hqj (by omega) hno).1
    have hnx := h.nx
    refine a_sound hE hcall hadv.rel hg o hopr hk hf fun u w' hd => ?_
    obtain ⟨ρ', ⟨hp, hsm⟩, hv⟩ := hd
    have hle := hp.le hadv.rel
    refine hK _ _ (j + 1) ρ' ⟨by omega, .inr ⟨j, rfl, hA, put1_self S j⟩, ?_, ?_, hadv.trans hp, by have := hp.nx; omega, ?_, ?_, ?_, htemps ρ' u hle hv, by rw [put_size]; exact h.sz, by rw [put_defers]; exact h.d, h.sm.trans hsm⟩
    · intro i hA' hsi
      by_cases e : i = j
      · omega
      · rw [put1_ne e] at hsi; have := h.aS i hA' hsi; omega
    · intro i hi hk'
      by_cases e : i = j
      · subst e; exact put1_self S i
      · exact put1_of (ahead i (by omega) hk')
    · intro i b hi hn hsi
      have hil := hn.lt
      rw [put1_ne (by omega)] at hsi
      obtain ⟨p, ob, e1, e2, e3, e4, _⟩ := h.exI i b (by omega) hn hsi
      have halone := h.alone ht hqj (by omega) hno hN (by omega) hn hsi e1
      have hlt := (Array.getElem?_eq_some_iff.1 e2).1
      refine ⟨p, ob, by rw [hp.ext _ (by omega)]; exact e1, ?_, e3.mono hle, e4, ?_⟩
      · rw [hp.frame p.c hlt (fun c x pc hc hw' hpc => halone c x pc hc (wr_alive hw') hpc)]; exact e2
      · intro c y pc hc ha' hpc heq
        obtain ⟨c0, y0, pc0, z1, z2, z3, z4⟩ := hp.alv c y pc hc ha' hpc (by omega)
        exact halone c0 y0 pc0 z1 z2 z3 (by omega)
    · intro i i' b b' p p' hi hi' hn hn' hsi hsi' hne hp1 hp2
      have hil := hn.lt
      have hil' := hn'.lt
      rw [put1_ne (by omega)] at hsi hsi'
      rw [hp.ext _ (by omega)] at hp1 hp2
      exact h.exD i i' b b' p p' (by omega) (by omega) hn hn' hsi hsi' hne hp1 hp2
    · intro i b hi hn hsi
      have hil := hn.lt
      rw [put1_ne (by omega)] at hsi
      rw [hp.ext _ (by omega)]
      exact h.exN i b (by omega) hn hsi

end
end Ev
