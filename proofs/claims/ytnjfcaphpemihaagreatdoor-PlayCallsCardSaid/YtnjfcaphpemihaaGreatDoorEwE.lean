import Derived.Test.YtnjfcaphpemihaaGreatDoorEwD
import Derived.Below
set_option linter.unusedVariables false
set_option linter.unusedSimpArgs false
namespace Ev
open Go

section
variable {P : Program} {w : World} {E : Env} {call : CallF} {ks nt ng : Nat} {ops : List Oper} {base n : Nat} {tr : Nat → Rg} {vl : Nat → V} {ρ0 : Mp} {s0 : St} {H0 : Array Obj} {w0 : World} {S : Nat → Bool} {act act0 : Act} {q : Nat} {ρ : Mp}

def put1 (S : Nat → Bool) (j : Nat) : Nat → Bool := fun i => decide (i = j) || S i
theorem put1_self (S : Nat → Bool) (j : Nat) : put1 S j j = true := by simp [put1]
theorem put1_ne {S : Nat → Bool} {i j : Nat} (h : i ≠ j) : put1 S j i = S i := by simp [put1, h]
theorem put1_of {S : Nat → Bool} {i j : Nat} (h : S i = true) : put1 S j i = true := by simp [put1, h]

theorem opRel' {a : A} {x : Operand} (ht : ∀ t, x = .tmp t → VRel ρ (a.get t) (act.tmps.getD t undef)) (hg : GOk ng ρ) (hx : opndOk ng x = true) : OpRel ρ a act.eval x := by
  cases x with
  | tmp t => exact ht t rfl
  | const v => exact conv_rel v
  | global g =>
    obtain ⟨p, h1, h2, h3⟩ := hg g (Nat.le_of_ble_eq_true hx)
    refine ⟨p, h1, ?_⟩
    show Value.pointer (some ⟨g, 0, none⟩) = .pointer (some ⟨p.c, p.o + 0, none⟩)
    rw [h2, h3]
  | func f => exact ⟨#[], rfl, .nil⟩

theorem DInv.step (hE : EnvOk E P) (hcall : CallOk P ng call) (ht : Tr E call ks ops base n tr vl) (h : DInv E ops base n tr vl nt ρ0 s0 H0 w0 act0 S act w q ρ)
    (h0 : HRel ρ0 s0.h.get s0.nx H0) (hg0 : GOk ng ρ0) (hb0 : s0.nx = base) (hops : ∀ o ∈ ops, operOk nt ng o = true)
    {j : Nat} {o : Oper} {m : Nat} (hjn : j < n) (ho : ops[j]? = some o) (hm : (masks ops)[j]? = some m) (hkd : Kd E call ks ops o j m base (tr j) (tr (j + 1)) (vl j)) (hs : S j = false)
    (hin : ∀ i, m.testBit i = true → S i = true) (hcl : ∀ i mi, S i = true → (masks ops)[i]? = some mi → ∀ k, mi.testBit k = true → S k = true)
    {K : Act → World → Prop} {Q : Exit → Act → World → Prop} (hK : ∀ act' w' q' ρ', DInv E ops base n tr vl nt ρ0 s0 H0 w0 act0 (put1 S j) act' w' q' ρ' → K act' w') : wpOp P ops.toArray Q j K act w := by
  have hnl := ht.nl
  have hoper := hops o (List.mem_of_getElem? ho)
  have hg : GOk ng ρ := fun g hn => by
    obtain ⟨p, h1, h2⟩ := hg0 g hn
    exact ⟨p, by rw [h.post.ext g (h0.dom g p h1)]; exact h1, h2⟩
  have early : ∀ t, Looks ops o t → ∀ i, i < j → dstAt ops i = some t → S i = true := by
    intro t hl i hi hd
    have hx : ops[i]? = some ops[i] := List.getElem?_eq_getElem (by omega)
    rcases (opsOk_spec ht.ok ho hm).2 i _ hx hi with g | g
    · exact hin i g
    · have hd' : (ops[i]).dst = some t := by unfold dstAt at hd; rw [hx] at hd; exact hd
      exact absurd hl ((apart_looks g).1 t hd').1
  have late : ∀ t, (Looks ops o t ∨ o.dst = some t) → ∀ i, j < i → i < n → dstAt ops i = some t → S i = false := by
    intro t hl i hi hin' hd
    cases hsi : S i with
    | false => rfl
    | true =>
      exfalso
      obtain ⟨x, mi, k1, k2, _⟩ := ht.get hin'
      have hd' : x.dst = some t := by unfold dstAt at hd; rw [k1] at hd; exact hd
      rcases (opsOk_spec ht.ok k1 k2).2 j o ho hi with g | g
      · have := hcl i mi hsi k2 j g
        rw [hs] at this; cases this
      · rcases hl with hl | hl
        · exact (apart_looks g).2 t hd' hl
        · exact ((apart_looks g).1 t hl).2 hd'
  have hl : ∀ t, Looks ops o t → VRel ρ ((tr j).a.get t) (act.tmps.getD t undef) := by
    intro t hlk
    rw [ht.temps j (by omega) t, ← lastV_eq (S := S) (early t hlk) n (by omega) (fun i h1 h2 h3 => by
      by_cases e : i = j
      · subst e; exact hs
      · exact late t (.inl hlk) i (by omega) h2 h3)]
    exact h.temps t
  have hopr : ∀ x ∈ o.op.operands, OpRel ρ (tr j).a act.eval x := by
    intro x hx
    have h2 := hoper
    unfold operOk at h2
    rw [Bool.and_eq_true, List.all_eq_true] at h2
    refine opRel' (fun t e => hl t (.inl ?_)) hg (h2.2 x (by simpa using hx))
    subst e; simpa using hx
  have htemps : ∀ (ρ' : Mp) (u : Value), ρ.le ρ' → VRel ρ' (vl j) u → ∀ t, VRel ρ' (lastV ops (tr 0).a vl (put1 S j) n t) ((act.put o.dst u).tmps.getD t undef) := by
    intro ρ' u hle hv t
    by_cases hd : o.dst = some t
    · have hda : dstAt ops j = some t := by unfold dstAt; rw [ho]; exact hd
      rw [lastV_at hda (put1_self S j) n hjn (fun i h1 h2 h3 => by rw [put1_ne (by omega)]; exact late t (.inr hd) i h1 h2 h3)]
      have h2 := hoper
      unfold operOk at h2
      rw [Bool.and_eq_true, hd] at h2
      have htn : t + 1 ≤ nt := Nat.le_of_ble_eq_true h2.1
      have := h.sz
      rw [hd]
      show VRel ρ' (vl j) ((act.tmps.setIfInBounds t u).getD t undef)
      have hts : t < act.tmps.size := by omega
      simp [hts]; exact hv
    · rw [lastV_same (S := S) n (fun i h1 h2 => by
        rw [put1_ne]
        intro e; subst e
        unfold dstAt at h2; rw [ho] at h2; exact hd h2)]
      have : (act.put o.dst u).tmps.getD t undef = act.tmps.getD t undef := by
        cases hdd : o.dst with
        | none => rfl
        | some d =>
          have hne : d ≠ t := fun e => hd (by rw [hdd, e])
          show (act.tmps.setIfInBounds d u).getD t undef = _
          simp [Array.getD_eq_getD_getElem?, Array.getElem?_setIfInBounds_ne hne]
      rw [this]
      exact (h.temps t).mono hle
  -- neither an active one nor a new block
  have plain : (¬ IsA E ops n tr j) → (∀ b, ¬ IsN E ops n tr base j b) → ∀ u, VRel ρ (vl j) u → DInv E ops base n tr vl nt ρ0 s0 H0 w0 act0 (put1 S j) (act.put o.dst u) w q ρ := by
    intro nA nN u hv
    refine ⟨h.qn, ?_, ?_, fun i hi hk => put1_of (h.pre i hi hk), h.post, h.nx, ?_, ?_, ?_, htemps ρ u (Mp.le_refl ρ) hv, by rw [put_size]; exact h.sz, by rw [put_defers]; exact h.d, h.sm⟩
    · rcases h.hq with g | ⟨i, g1, g2, g3⟩
      · exact .inl g
      · exact .inr ⟨i, g1, g2, put1_of g3⟩
    · intro i hA hsi
      by_cases e : i = j
      · subst e; exact absurd hA nA
      · rw [put1_ne e] at hsi; exact h.aS i hA hsi
    · intro i b hi hn hsi
      have e : i ≠ j := fun e => by subst e; exact nN b hn
      rw [put1_ne e] at hsi; exact h.exI i b hi hn hsi
    · intro i i' b b' p p' hi hi' hn hn' hsi hsi' hne
      have e : i ≠ j := fun e => by subst e; exact nN b hn
      have e' : i' ≠ j := fun e => by subst e; exact nN b' hn'
      rw [put1_ne e] at hsi; rw [put1_ne e'] at hsi'
      exact h.exD i i' b b' p p' hi hi' hn hn' hsi hsi' hne
    · intro i b hi hn hsi
      have e : i ≠ j := fun e => by subst e; exact nN b hn
      rw [put1_ne e] at hsi; exact h.exN i b hi hn hsi
  unfold wpOp
  rw [List.getElem?_toArray, ho]
  simp only []
  cases hkd with
  | skip hw hv ha hst hgs hrs he =>
    have hwant := wanted_ok' hl hw
    rw [hwant]
    simp only [Bool.false_eq_true, if_false]
    refine hK _ _ q ρ (plain ?_ ?_ undef (by rw [hv]; exact ⟨#[], rfl, .nil⟩))
    · rintro ⟨_, o', f, q1, q2, q3⟩; rw [ho] at q1; cases q1; rw [hw] at q2; cases q2
    · rintro b ⟨_, o', f, v, q1, q2, q3, q4⟩; rw [ho] at q1; cases q1; rw [hw] at q2; cases q2
  | r hw rd f hk hf ha hst hgs he hr =>
    have hwant := wanted_ok' hl hw
    rw [hwant]
    simp only [if_true]
    left
    have nA : ¬ IsA E ops n tr j := by rintro ⟨_, o', f', q1, q2, q3⟩; rw [ho] at q1; cases q1; rw [hk] at q3; cases q3
    have nN : ∀ b, ¬ IsN E ops n tr base j b := by rintro b ⟨_, o', f', v, q1, q2, q3, q4⟩; rw [ho] at q1; cases q1; rw [hk] at q3; cases q3
    have look : ∃ look, Sees ρ look w.heap ∧ f E (tr j).a look = some (vl j) := by
      rcases hr with ⟨rfl, _⟩ | ⟨rfl, hbk, _⟩
      · exact ⟨fun _ => none, ⟨(fun x b p hx => by cases hx), h.post.rel.lies⟩, by rw [← hf]; exact r_blind o.op hk _ _⟩
      · by_cases hqj : q ≤ j
        · by_cases hall : ∀ i, q ≤ i → i < j → ¬ IsA E ops n tr i
          · exact ⟨_, h.sees ht hqj (by omega) hall, hf⟩
          · -- the first active one that is not yet done
            have hex : ∃ i0, q ≤ i0 ∧ i0 < j ∧ IsA E ops n tr i0 ∧ ∀ i, q ≤ i → i < i0 → ¬ IsA E ops n tr i := by
              have : ∃ i, q ≤ i ∧ i < j ∧ IsA E ops n tr i := by
                apply Classical.byContradiction
                intro hn
                exact hall fun i a b c => hn ⟨i, a, b, c⟩
              obtain ⟨i, hi⟩ := this
              induction i using Nat.strongRecOn with
              | _ i ih =>
                by_cases hmin : ∀ k, q ≤ k → k < i → ¬ IsA E ops n tr k
                · exact ⟨i, hi.1, hi.2.1, hi.2.2, hmin⟩
                · have : ∃ k, q ≤ k ∧ k < i ∧ IsA E ops n tr k := by
                    apply Classical.byContradiction
                    intro hn
                    exact hmin fun k a b c => hn ⟨k, a, b, c⟩
                  obtain ⟨k, k1, k2, k3⟩ := this
                  exact ih k k2 ⟨k1, by omega, k3⟩
            obtain ⟨i0, e1, e2, e3, e4⟩ := hex
            have hmem := ht.gs j (by omega) i0 e2 e3
            have hbit : m.testBit i0 = false := by
              cases hb : m.testBit i0 with
              | false => rfl
              | true => have := h.aS i0 e3 (hin i0 hb); omega
            exact ⟨_, h.sees ht e1 (by omega) e4, backs_spec _ hbk i0 _ hmem hbit⟩
        · rcases h.hq with g | ⟨i, g1, g2, g3⟩
          · omega
          · have hij : j ≠ i := fun e => by subst e; exact nA g2
            obtain ⟨oi, mi, k1, k2, k3⟩ := ht.get (j := i) g2.lt
            have hrd := ht.rs i (by have := g2.lt; omega) j (by omega) o f ho hw hk
            obtain ⟨_, oi', fi, l1, l2, l3⟩ := g2
            rw [k1] at l1; cases l1
            cases k3 with
            | skip hw' _ _ _ _ _ _ => rw [hw'] at l2; cases l2
            | r hw' rd' f' hk' _ _ _ _ _ _ => rw [hk'] at l3; cases l3
            | n hw' f' b' hk' _ _ _ _ _ _ => rw [hk'] at l3; cases l3
            | a hw' f' hk' hf' ha' hm' hfo _ _ _ =>
              have hbit : mi.testBit j = false := by
                cases hb : mi.testBit j with
                | false => rfl
                | true => have := hcl i mi g3 k2 j hb; rw [hs] at this; cases this
              have := fores_spec _ hfo _ hrd hbit
              refine ⟨(tr q).s.h.get, h.post.rel.sees, ?_⟩
              rw [g1]; exact this
    obtain ⟨look, hsee, hval⟩ := look
    obtain ⟨u, r1, r2⟩ := r_sound hE hsee o hopr hk hval
    exact upon_value r1 (hK _ _ q ρ (plain nA nN u r2))
  | n hw f b hk hf ha hst hgs hrs he =>
    have hwant := wanted_ok' hl hw
    rw [hwant]
    simp only [if_true]
    left
    have hN : IsN E ops n tr base j b := ⟨hjn, o, f, _, ho, hw, hk, hf⟩
    have nA : ¬ IsA E ops n tr j := by rintro ⟨_, o', f', q1, q2, q3⟩; rw [ho] at q1; cases q1; rw [hk] at q3; cases q3
    have hqj : q ≤ j := by
      rcases Nat.lt_or_ge j q with g | g
      · have := h.pre j g (.inr ⟨b, hN⟩); rw [hs] at this; cases this
      · exact g
    have hnone := h.exN j b hqj hN hs
    obtain ⟨u, w', p, ob, q1, q2, q3, q4, q5⟩ := n_sound (P := P) (w := w) hE o hopr hk hf
    have hle : ρ.le (ρ.put (base + j) p) := Mp.le_put hnone
    have hnx := h.nx
    have old : ∀ i, i ≠ j → (ρ.put (base + j) p) (base + i) = ρ (base + i) := fun i hi => by rw [Mp.put_at, if_neg (by omega)]
    have keep : ∀ i b', q ≤ i → IsN E ops n tr base i b' → S i = true → ∃ p' o', ρ (base + i) = some p' ∧ w'.heap[p'.c]? = some o' ∧ BlkRel (ρ.put (base + j) p) p' b' o' ∧ H0.size ≤ p'.c ∧ p'.c < w.heap.size ∧
        (∀ c y pc, (tr q).s.h.get c = some y → alive y = true → (ρ.put (base + j) p) c = some pc → pc.c ≠ p'.c) ∧ ∀ k v, (ρ.put (base + j) p).m p'.c k ≠ some v := by
      intro i b' hi hn hsi
      obtain ⟨p', o', e1, e2, e3, e4, e5⟩ := h.exI i b' hi hn hsi
      have hlt := (Array.getElem?_eq_some_iff.1 e2).1
      refine ⟨p', o', e1, by rw [q2.1, Array.getElem?_push, if_neg (by omega)]; exact e2, e3.mono hle, e4, hlt, ?_, e5.2⟩
      intro c y pc hc ha hpc
      obtain ⟨pc', _, u1, _⟩ := h.post.rel.blk c y hc ha
      have : c ≠ base + j := fun e => by rw [e, hnone] at u1; cases u1
      rw [Mp.put_at, if_neg this] at hpc
      exact e5.1 c y pc hc ha hpc
    refine upon_value q1 (hK _ _ q (ρ.put (base + j) p) ?_)
    refine ⟨h.qn, ?_, ?_, fun i hi hk => put1_of (h.pre i hi hk), ?_, h.nx, ?_, ?_, ?_, htemps _ u hle q5, by rw [put_size]; exact h.sz, by rw [put_defers]; exact h.d, h.sm.trans q2.2⟩
    · rcases h.hq with g | ⟨i, g1, g2, g3⟩
      · exact .inl g
      · exact .inr ⟨i, g1, g2, put1_of g3⟩
    · intro i hA hsi
      by_cases e : i = j
      · subst e; exact absurd hA nA
      · rw [put1_ne e] at hsi; exact h.aS i hA hsi
    · rw [q2.1]; exact h.post.more (by omega) (by omega) hnone q3
    · intro i b' hi hn hsi
      by_cases e : i = j
      · subst e
        have hbb := IsN.uniq hn hN
        subst hbb
        refine ⟨p, ob, by rw [Mp.put_at, if_pos rfl], by rw [q2.1, q3]; simp, q4.mono hle, by have := h.post.sz; omega, ?_, fun k v hm => by have := h.post.rel.lies.lt (c := p.c) (i := k) (v := v) hm; omega⟩
        intro c y pc hc ha hpc
        obtain ⟨pc', o', u1, u2, _⟩ := h.post.rel.blk c y hc ha
        have : c ≠ base + i := fun e => by rw [e, hnone] at u1; cases u1
        rw [Mp.put_at, if_neg this, u1] at hpc
        cases hpc
        have := (Array.getElem?_eq_some_iff.1 u2).1
        omega
      · rw [put1_ne e] at hsi
        obtain ⟨p', o', e1, e2, e3, e4, _, e5⟩ := keep i b' hi hn hsi
        exact ⟨p', o', by rw [old i e]; exact e1, e2, e3, e4, e5⟩
    · intro i i' b1 b2 p1 p2 hi hi' hn hn' hsi hsi' hne hp1 hp2
      by_cases e : i = j
      · subst e
        rw [Mp.put_at, if_pos rfl] at hp1; cases hp1
        have e' : i' ≠ i := fun e => hne e.symm
        rw [put1_ne e'] at hsi'
        rw [old i' e'] at hp2
        obtain ⟨p', o', e1, _, _, _, e4, _⟩ := keep i' b2 hi' hn' hsi'
        rw [e1] at hp2; cases hp2
        omega
      · rw [put1_ne e] at hsi
        rw [old i e] at hp1
        by_cases e' : i' = j
        · subst e'
          rw [Mp.put_at, if_pos rfl] at hp2; cases hp2
          obtain ⟨p', o', e1, _, _, _, e4, _⟩ := keep i b1 hi hn hsi
          rw [e1] at hp1; cases hp1
          omega
        · rw [put1_ne e'] at hsi'
          rw [old i' e'] at hp2
          exact h.exD i i' b1 b2 p1 p2 hi hi' hn hn' hsi hsi' hne hp1 hp2
    · intro i b' hi hn hsi
      have e : i ≠ j := fun e => by subst e; rw [put1_self] at hsi; cases hsi
      rw [put1_ne e] at hsi
      rw [old i e]; exact h.exN i b' hi hn hsi
  | a hw f hk hf ha hmm hfo hgs hrs he =>
    have hwant := wanted_ok' hl hw
    rw [hwant]
    simp only [if_true]
    left
    have hA : IsA E ops n tr j := ⟨hjn, o, f, ho, hw, hk⟩
    have nN : ∀ b, ¬ IsN E ops n tr base j b := by rintro b ⟨_, o', f', v, q1, q2, q3, q4⟩; rw [ho] at q1; cases q1; rw [hk] at q3; cases q3
    have ahead : ∀ i, i < j → (IsA E ops n tr i ∨ ∃ b, IsN E ops n tr base i b) → S i = true := by
      intro i hi hk'
      have h1 := ht.eff j (by omega) i hi hk'
      have h2 := congrArg (fun x => x.testBit i) hmm
      have h3 : (Nat.land (tr j).eff m).testBit i = ((tr j).eff.testBit i && m.testBit i) := Nat.testBit_and _ _ _
      simp only [h3, h1, Bool.true_and] at h2
      exact hin i h2
    have hqj : q ≤ j := by
      rcases h.hq with g | ⟨i, g1, g2, g3⟩
      · omega
      · rcases Nat.lt_or_ge j i with g | g
        · have h4 := h.pre j (by omega) (.inl hA); rw [hs] at h4; cases h4
        · have : i ≠ j := fun e => by subst e; rw [hs] at g3; cases g3
          omega
    have hno : ∀ i, q ≤ i → i < j → ¬ IsA E ops n tr i := fun i a b c => by have := h.aS i c (ahead i b (.inl c)); omega
    have hN : ∀ i b, q ≤ i → i < j → IsN E ops n tr base i b → S i = true := fun i b _ a c => ahead i a (.inr ⟨b, c⟩)
    have hadv := h.advance ht hqj (by omega) hno hN
    have hnxj := (ht.between j hqj (by omega) hno).1
    have hnx := h.nx
    refine a_sound hE hcall hadv.rel hg o hopr hk hf fun u w' hd => ?_
    obtain ⟨ρ', ⟨hp, hsm⟩, hv⟩ := hd
    have hle := hp.le hadv.rel
    refine hK _ _ (j + 1) ρ' ⟨by omega, .inr ⟨j, rfl, hA, put1_self S j⟩, ?_, ?_, hadv.trans hp, by have := hp.nx; omega, ?_, ?_, ?_, htemps ρ' u hle hv, by rw [put_size]; exact h.sz, by rw [put_defers]; exact h.d, h.sm.trans hsm⟩
    · intro i hA' hsi
      by_cases e : i = j
      · omega
      · rw [put1_ne e] at hsi; have := h.aS i hA' hsi; omega
    · intro i hi hk'
      by_cases e : i = j
      · subst e; exact put1_self S i
      · exact put1_of (ahead i (by omega) hk')
    · intro i b hi hn hsi
      have hil := hn.lt
      rw [put1_ne (by omega)] at hsi
      obtain ⟨p, ob, e1, e2, e3, e4, e5⟩ := h.exI i b (by omega) hn hsi
      have halone := h.alone ht hqj (by omega) hno hN (by omega) hn hsi e1
      have hlt := (Array.getElem?_eq_some_iff.1 e2).1
      refine ⟨p, ob, by rw [hp.ext _ (by omega)]; exact e1, ?_, e3.mono hle, e4, ?_, ?_⟩
      · rw [hp.frame p.c hlt (fun c x pc hc hw' hpc => halone c x pc hc (wr_alive hw') hpc)]; exact e2
      · intro c y pc hc ha' hpc heq
        obtain ⟨c0, y0, pc0, z1, z2, z3, z4⟩ := hp.alv c y pc hc ha' hpc (by omega)
        exact halone c0 y0 pc0 z1 z2 z3 (by omega)
      · intro k v hm
        rcases hp.mn p.c k v hm with g | g | ⟨b0, x0, p0, z1, z2, z3, z4⟩
        · exact e5.2 k v g
        · omega
        · exact halone b0 x0 p0 z1 (wr_alive z2) z3 z4
    · intro i i' b b' p p' hi hi' hn hn' hsi hsi' hne hp1 hp2
      have hil := hn.lt
      have hil' := hn'.lt
      rw [put1_ne (by omega)] at hsi hsi'
      rw [hp.ext _ (by omega)] at hp1 hp2
      exact h.exD i i' b b' p p' (by omega) (by omega) hn hn' hsi hsi' hne hp1 hp2
    · intro i b hi hn hsi
      have hil := hn.lt
      rw [put1_ne (by omega)] at hsi
      rw [hp.ext _ (by omega)]
      exact h.exN i b (by omega) hn hsi

end
end Ev

set_option linter.unusedVariables false
set_option linter.unusedSimpArgs false
namespace Ev
open Go

theorem natIn_iff (b : Nat) : ∀ l : List Nat, natIn b l = true ↔ b ∈ l := by
  intro l
  induction l with
  | nil => simp [natIn]
  | cons c l ih =>
    simp only [natIn]
    cases hb : Nat.beq b c with
    | true => simp [Nat.eq_of_beq_eq_true hb]
    | false =>
      have : b ≠ c := by intro e; subst e; simp at hb
      simp [ih, this]

inductive TK (E : Env) (ks : Nat) (h0 : Look) (o : Oper) (a a' : A) (v : V) (u : Option (Nat × Blk)) : Prop where
  | pure (hg : o.guard = none) (rd : Bool) (f : Env → A → Look → Option V) (hk : kOf E (opK o.op) = .r rd f) (hf : f E a (fun _ => none) = some v) (ha : a' = putA ks a o.dst v) (hu : u = none)
  | store (hg : o.guard = none) (f : Env → CallF → A → St → VS) (hk : kOf E (opK o.op) = .a f) (b : Nat) (r : Row) (y : Blk) (hu : u = some (b, y)) (hv : v = .un) (ha : a' = putA ks a o.dst v)
      (hr : rowOf h0 b = some r) (hst : ∀ (call : CallF) (s : St), rowOf s.h.get b = some r → f E call a s = .ok .un ⟨s.h.set b y, s.nx⟩)

theorem TK.ha' {E : Env} {ks : Nat} {h0 : Look} {o : Oper} {a a' : A} {v : V} {u : Option (Nat × Blk)} (h : TK E ks h0 o a a' v u) : a' = putA ks a o.dst v := by cases h <;> assumption

theorem rowOf_congr {f g : Look} {b : Nat} (h : f b = g b) : rowOf f b = rowOf g b := by unfold rowOf; rw [h]

theorem tailOp_tk {E : Env} {ks : Nat} {h0 : Look} {o : Oper} {a a' : A} {s s' : St} {bs bs' : List Nat} (h : tailOp E ks o a s bs = some (a', s', bs')) (hs : ∀ x, x ∉ bs → s.h.get x = h0 x) :
    ∃ v u, TK E ks h0 o a a' v u ∧ s'.nx = s.nx ∧ ((u = none ∧ s' = s ∧ bs' = bs) ∨ ∃ b y, u = some (b, y) ∧ b ∉ bs ∧ bs' = b :: bs ∧ s'.h = s.h.set b y) := by
  unfold tailOp at h
  cases hg : o.guard with
  | some g => rw [hg] at h; cases h
  | none =>
    rw [hg] at h
    simp only [] at h
    cases hp : isPure o.op with
    | true =>
      rw [hp] at h
      simp only [] at h
      cases hk : opK o.op with
      | r rd f =>
        rw [hk] at h
        simp only [] at h
        cases hf : f E a (fun _ => none) with
        | none => rw [hf] at h; cases h
        | some v =>
          rw [hf] at h
          cases h
          exact ⟨v, none, .pure hg rd f (by rw [hk]; rfl) hf rfl rfl, rfl, .inl ⟨rfl, rfl, rfl⟩⟩
      | n _ => rw [hk] at h; cases h
      | a _ => rw [hk] at h; cases h
      | cv _ _ _ => rw [hk] at h; cases h
      | no => rw [hk] at h; cases h
    | false =>
      rw [hp] at h
      obtain ⟨dst, op, type, pos, after, guard⟩ := o
      cases op <;> simp only [reduceCtorEq] at h
      rename_i t x z
      unfold tailStore at h
      cases hP : opP a x with
      | none => rw [hP] at h; cases h
      | some bo =>
        obtain ⟨b, off⟩ := bo
        rw [hP] at h
        simp only [] at h
        cases hn : natIn b bs with
        | true => rw [hn] at h; cases h
        | false =>
          rw [hn] at h
          simp only [] at h
          have hnb : b ∉ bs := fun hm => by rw [(natIn_iff b bs).2 hm] at hn; cases hn
          cases hr : rowOf s.h.get b with
          | none => rw [hr] at h; cases h
          | some r =>
            rw [hr] at h
            simp only [] at h
            cases hle : Nat.ble r.sh off with
            | false => rw [hle] at h; cases h
            | true =>
              rw [hle] at h
              simp only [] at h
              cases hw : opW a z with
              | none => rw [hw] at h; cases h
              | some w =>
                rw [hw] at h
                simp only [] at h
                cases hst : store E t s b off w with
                | none => rw [hst] at h; cases h
                | some s1 =>
                  rw [hst] at h
                  cases h
                  obtain ⟨q, n, leaf, sh, anc⟩ := r
                  have key : ∃ y, ∀ s2 : St, rowOf s2.h.get b = some ⟨q, n, leaf, sh, anc⟩ → store E t s2 b off w = some ⟨s2.h.set b y, s2.nx⟩ := by
                    refine ⟨.row ⟨q.setL off w.cells, n, leaf, sh, anc⟩, fun s2 h2 => ?_⟩
                    unfold store at hst ⊢
                    cases hi : E.tab.get t with
                    | none => rw [hi] at hst; cases hst
                    | some i =>
                      rw [hi] at hst
                      simp only [] at hst ⊢
                      cases hb : Nat.beq (lenA w.cells 0) i.size with
                      | false => rw [hb] at hst; cases hst
                      | true =>
                        rw [hb] at hst
                        simp only [] at hst ⊢
                        unfold writeL at hst ⊢
                        rw [hr] at hst
                        rw [h2]
                        simp only [] at hst ⊢
                        cases hm : mayWrite ⟨q, n, leaf, sh, anc⟩ off w.cells with
                        | false => rw [hm] at hst; cases hst
                        | true =>
                          simp only [Option.some.injEq]
                          unfold writeR
                          obtain ⟨h2', nx2⟩ := s2
                          simp only []
                          have hle' : sh ≤ off := Nat.le_of_ble_eq_true hle
                          have : Nat.ble (Nat.succ off) sh = false := by
                            cases hb : Nat.ble (Nat.succ off) sh with
                            | false => rfl
                            | true => have := Nat.le_of_ble_eq_true hb; omega
                          rw [this]
                  obtain ⟨y, hy⟩ := key
                  have hs1 := hy s hr
                  rw [hst] at hs1
                  cases hs1
                  refine ⟨.un, some (b, y), .store hg _ rfl b ⟨q, n, leaf, sh, anc⟩ y rfl rfl rfl ?_ ?_, rfl, .inr ⟨b, y, rfl, hnb, rfl, rfl⟩⟩
                  · rw [← rowOf_congr (hs b hnb)]; exact hr
                  · intro call s2 h2
                    show aStore E a t x z s2 = _
                    unfold aStore
                    rw [hP]
                    simp only []
                    rw [hw]
                    simp only []
                    rw [hy s2 h2]
                    rfl

theorem tailOps_tr {E : Env} {ks : Nat} {h0 : Look} : ∀ (l : List Oper) (j : Nat) (a : A) (s : St) (bs : List Nat) (a' : A) (s' : St), tailOps E ks l a s bs = .ok a' s' → (∀ x, x ∉ bs → s.h.get x = h0 x) →
    ∃ (ta : Nat → A) (vl : Nat → V) (up : Nat → Option (Nat × Blk)), ta j = a ∧ ta (j + l.length) = a' ∧ s'.nx = s.nx ∧ (∀ i o, l[i]? = some o → TK E ks h0 o (ta (j + i)) (ta (j + i + 1)) (vl (j + i)) (up (j + i))) ∧
      (∀ i, i < j → up i = none) ∧ (∀ i b y, up i = some (b, y) → b ∉ bs) ∧ (∀ i i' b y b' y', i < i' → up i = some (b, y) → up i' = some (b', y') → b ≠ b') ∧
      (∀ x, (∃ i y, i < j + l.length ∧ up i = some (x, y) ∧ s'.h.get x = some y) ∨ ((∀ i y, up i ≠ some (x, y)) ∧ s'.h.get x = s.h.get x)) := by
  intro l
  induction l with
  | nil =>
    intro j a s bs a' s' h hs
    cases h
    refine ⟨fun _ => a, fun _ => .un, fun _ => none, rfl, rfl, rfl, fun i o h => by simp at h, fun _ _ => rfl, ?_, ?_, ?_⟩
    · intro i b y h; cases h
    · intro i i' b y b' y' _ h; cases h
    · intro x; right; exact ⟨fun i y h => (by cases h), rfl⟩
  | cons o l ih =>
    intro j a s bs a' s' h hs
    simp only [tailOps] at h
    cases ho : tailOp E ks o a s bs with
    | none => rw [ho] at h; cases h
    | some p =>
      obtain ⟨a1, s1, bs1⟩ := p
      rw [ho] at h
      simp only [] at h
      obtain ⟨v, u, htk, hnx, hu⟩ := tailOp_tk ho hs
      have hs1 : ∀ x, x ∉ bs1 → s1.h.get x = h0 x := by
        intro x hx
        rcases hu with ⟨_, rfl, rfl⟩ | ⟨b, y, _, hb, rfl, hh⟩
        · exact hs x hx
        · rw [hh, T.get_set]
          rw [if_neg (fun e => hx (by rw [e]; simp))]
          exact hs x (fun hm => hx (List.mem_cons_of_mem _ hm))
      obtain ⟨ta, vl, up, h1, h2, h3, h4, h5, h6, h7, h8⟩ := ih (j + 1) a1 s1 bs1 a' s' h hs1
      have upj : up j = none := h5 j (by omega)
      refine ⟨fun i => if i ≤ j then a else ta i, fun i => if i ≤ j then v else vl i, fun i => if i = j then u else up i, by simp, ?_, by rw [h3, hnx], ?_, ?_, ?_, ?_, ?_⟩
      · show (if j + (l.length + 1) ≤ j then a else ta (j + (l.length + 1))) = a'
        rw [if_neg (by omega), ← h2]; congr 1; omega
      · intro i o' hi
        cases i with
        | zero =>
          simp at hi; subst hi
          show TK E ks h0 o (if j + 0 ≤ j then a else ta (j + 0)) (if j + 0 + 1 ≤ j then a else ta (j + 0 + 1)) (if j + 0 ≤ j then v else vl (j + 0)) (if j + 0 = j then u else up (j + 0))
          rw [if_pos (by omega), if_neg (by omega), if_pos (by omega), if_pos (by omega), show j + 0 + 1 = j + 1 by omega, h1]
          exact htk
        | succ i =>
          simp at hi
          have := h4 i o' hi
          show TK E ks h0 o' (if j + (i + 1) ≤ j then a else ta (j + (i + 1))) (if j + (i + 1) + 1 ≤ j then a else ta (j + (i + 1) + 1)) (if j + (i + 1) ≤ j then v else vl (j + (i + 1))) (if j + (i + 1) = j then u else up (j + (i + 1)))
          rw [if_neg (by omega), if_neg (by omega), if_neg (by omega), if_neg (by omega)]
          rw [show j + 1 + i = j + (i + 1) by omega] at this
          exact this
      · intro i hi
        show (if i = j then u else up i) = none
        rw [if_neg (by omega)]
        exact h5 i (by omega)
      · intro i b y hb
        replace hb : (if i = j then u else up i) = some (b, y) := hb
        by_cases e : i = j
        · rw [if_pos e] at hb
          rcases hu with ⟨hn, _, _⟩ | ⟨b', y', hu, hnb, _, _⟩
          · rw [hn] at hb; cases hb
          · rw [hu] at hb; cases hb; exact hnb
        · rw [if_neg e] at hb
          have := h6 i b y hb
          rcases hu with ⟨_, _, rfl⟩ | ⟨b', y', _, _, rfl, _⟩
          · exact this
          · exact fun hm => this (List.mem_cons_of_mem _ hm)
      · intro i i' b y b' y' hlt hb hb'
        replace hb : (if i = j then u else up i) = some (b, y) := hb
        replace hb' : (if i' = j then u else up i') = some (b', y') := hb'
        by_cases e : i = j
        · rw [if_pos e] at hb
          rw [if_neg (by omega)] at hb'
          have := h6 i' b' y' hb'
          rcases hu with ⟨hn, _, _⟩ | ⟨b2, y2, hu, hnb, rfl, _⟩
          · rw [hn] at hb; cases hb
          · rw [hu] at hb; cases hb
            intro e2; subst e2; exact this (by simp)
        · rw [if_neg e] at hb
          by_cases e' : i' = j
          · have := h5 i (by omega)
            rw [this] at hb; cases hb
          · rw [if_neg e'] at hb'
            exact h7 i i' b y b' y' hlt hb hb'
      · intro x
        rcases h8 x with ⟨i, y, hi, hx, hg⟩ | ⟨hno, hg⟩
        · left
          refine ⟨i, y, by simp; omega, ?_, hg⟩
          show (if i = j then u else up i) = some (x, y)
          rw [if_neg (fun e => by rw [e, upj] at hx; cases hx)]
          exact hx
        · rcases hu with ⟨hn, rfl, _⟩ | ⟨b, y, hu, hnb, _, hh⟩
          · right
            refine ⟨fun i y => ?_, hg⟩
            show (if i = j then u else up i) ≠ some (x, y)
            split
            · rw [hn]; simp
            · exact hno i y
          · rw [hh, T.get_set] at hg
            by_cases e : x = b
            · left
              rw [if_pos e] at hg
              refine ⟨j, y, by simp, ?_, hg⟩
              show (if j = j then u else up j) = some (x, y)
              rw [if_pos rfl, hu, e]
            · right
              rw [if_neg e] at hg
              refine ⟨fun i y' => ?_, hg⟩
              show (if i = j then u else up i) ≠ some (x, y')
              split
              · rw [hu]; intro h; cases h; exact e rfl
              · exact hno i y'

noncomputable def tGet (h0 : Look) (up : Nat → Option (Nat × Blk)) (S : Nat → Bool) : Nat → Look
  | 0, x => h0 x
  | k + 1, x => match S k, up k with
    | true, some (b, y) => if x = b then some y else tGet h0 up S k x
    | _, _ => tGet h0 up S k x

section
variable {h0 : Look} {up : Nat → Option (Nat × Blk)} {S : Nat → Bool}
theorem tGet_not {x : Nat} : ∀ k, (∀ i y, i < k → S i = true → up i ≠ some (x, y)) → tGet h0 up S k x = h0 x := by
  intro k
  induction k with
  | zero => intro _; rfl
  | succ k ih =>
    intro h
    have := ih (fun i y hi hs => h i y (by omega) hs)
    simp only [tGet]
    cases hs : S k with
    | false => exact this
    | true =>
      cases hu : up k with
      | none => exact this
      | some p =>
        obtain ⟨b, y⟩ := p
        simp only []
        rw [if_neg (fun e => h k y (by omega) hs (by rw [hu, e]))]
        exact this
theorem tGet_at {x : Nat} {y : Blk} (hd : ∀ i i' b y b' y', i < i' → up i = some (b, y) → up i' = some (b', y') → b ≠ b') {j : Nat} (hj : up j = some (x, y)) (hs : S j = true) : ∀ k, j < k → tGet h0 up S k x = some y := by
  intro k
  induction k with
  | zero => intro h; omega
  | succ k ih =>
    intro hk
    simp only [tGet]
    by_cases e : k = j
    · subst e; rw [hs, hj]; simp
    · have := ih (by omega)
      cases hs' : S k with
      | false => exact this
      | true =>
        cases hu : up k with
        | none => exact this
        | some p =>
          obtain ⟨b, y'⟩ := p
          simp only []
          rw [if_neg (hd j k x y b y' (by omega) hj hu)]
          exact this
theorem tGet_put {j : Nat} {b : Nat} {y : Blk} (hd : ∀ i i' b y b' y', i < i' → up i = some (b, y) → up i' = some (b', y') → b ≠ b') (hj : up j = some (b, y)) {k : Nat} (hk : j < k) (x : Nat) :
    tGet h0 up (put1 S j) k x = if x = b then some y else tGet h0 up S k x := by
  by_cases e : x = b
  · subst e; rw [if_pos rfl, tGet_at hd hj (put1_self S j) k hk]
  · rw [if_neg e]
    clear hk
    induction k with
    | zero => rfl
    | succ k ih =>
      simp only [tGet]
      by_cases e2 : k = j
      · subst e2
        rw [put1_self, hj]
        simp only []
        rw [if_neg e, ih]
        cases S k <;> simp [e]
      · rw [put1_ne e2, ih]
theorem tGet_skip {j : Nat} (hj : up j = none) (x : Nat) : ∀ k, tGet h0 up (put1 S j) k x = tGet h0 up S k x := by
  intro k
  induction k with
  | zero => rfl
  | succ k ih =>
    simp only [tGet]
    by_cases e2 : k = j
    · subst e2; rw [put1_self, hj]; cases S k <;> exact ih
    · rw [put1_ne e2, ih]
end

end Ev

set_option linter.unusedVariables false
set_option linter.unusedSimpArgs false
namespace Ev
open Go

theorem maskOf_keep (M : List Nat) (j i : Nat) : ∀ (l : List Edge) (acc : Nat), acc.testBit i = true → (maskOf M j l acc).testBit i = true := by
  intro l
  induction l with
  | nil => intro acc h; exact h
  | cons e l ih =>
    intro acc h
    simp only [maskOf]
    cases Region.binds .any e with
    | false => exact ih acc h
    | true =>
      refine ih _ ?_
      rw [testBit_lor, testBit_lor, h]; rfl
theorem maskOf_mem (M : List Nat) (j : Nat) : ∀ (l : List Edge) (acc : Nat) (e : Edge), e ∈ l → Region.binds .any e = true → (maskOf M j l acc).testBit e.on = true := by
  intro l
  induction l with
  | nil => intro acc e h; simp at h
  | cons x l ih =>
    intro acc e h hb
    simp only [maskOf]
    rcases List.mem_cons.1 h with rfl | h
    · rw [hb]
      refine maskOf_keep M j _ l _ ?_
      rw [testBit_lor, testBit_lor, testBit_one]; simp
    · cases Region.binds .any x with
      | false => exact ih acc e h hb
      | true => exact ih _ e h hb
theorem masks_mem (ops : List Oper) {j : Nat} {o : Oper} {m : Nat} (ho : ops[j]? = some o) (hm : (masks ops)[j]? = some m) {e : Edge} (he : e ∈ o.after) (hb : Region.binds .any e = true) : m.testBit e.on = true := by
  obtain ⟨r, h1, h2, h3⟩ := masksL_spec ops 0 []
  have hmm : masks ops = r := by unfold masks; rw [h1]; simp
  rw [hmm, h3 j o ho] at hm
  cases hm
  exact maskOf_mem _ _ _ _ e (by simpa using he) hb

theorem count_set {n j : Nat} {S : Nat → Bool} (hj : j < n) (hs : S j = false) : (List.range n).countP (fun i => !put1 S j i) < (List.range n).countP (fun i => !S i) := by
  induction n with
  | zero => omega
  | succ n ih =>
    rw [List.range_succ, List.countP_append, List.countP_append]
    have mono : ∀ k, (List.range k).countP (fun i => !put1 S j i) ≤ (List.range k).countP (fun i => !S i) := fun k => by
      apply List.countP_mono_left
      intro i _ hi
      simp only [Bool.not_eq_true'] at hi ⊢
      cases h : S i with
      | false => rfl
      | true => rw [put1_of h] at hi; cases hi
    by_cases e : j = n
    · subst e
      have := mono j
      simp only [List.countP_singleton, put1_self, hs]
      simp
      omega
    · have h1 := ih (by omega)
      simp only [List.countP_singleton, put1_ne (show n ≠ j by omega)]
      omega

section
variable {P : Program} {w : World} {E : Env} {call : CallF} {ks nt ng : Nat} {ops : List Oper} {base n : Nat} {tr : Nat → Rg} {vl : Nat → V} {ρ0 : Mp} {s0 : St} {H0 : Array Obj} {w0 : World} {act act0 : Act} {q : Nat} {ρ : Mp} {S : Nat → Bool}
variable {ta : Nat → A} {up : Nat → Option (Nat × Blk)}

structure TT (E : Env) (ks : Nat) (ops : List Oper) (n : Nat) (tr : Nat → Rg) (ta : Nat → A) (vl : Nat → V) (up : Nat → Option (Nat × Blk)) : Prop where
  a0 : ta n = (tr n).a
  tk : ∀ j o, n ≤ j → ops[j]? = some o → TK E ks (tr n).s.h.get o (ta j) (ta (j + 1)) (vl j) (up j)
  lo : ∀ i, i < n → up i = none
  ap : ∀ i i' b y b' y', i < i' → up i = some (b, y) → up i' = some (b', y') → b ≠ b'
  cov : ∀ j o m, n ≤ j → ops[j]? = some o → (masks ops)[j]? = some m → ∀ i, i < n → m.testBit i = true

theorem TT.temps (ht : Tr E call ks ops base n tr vl) (htt : TT E ks ops n tr ta vl up) : ∀ j, n ≤ j → j ≤ ops.length → ∀ t, (ta j).get t = lastV ops (tr 0).a vl (fun _ => true) j t := by
  intro j
  induction j with
  | zero =>
    intro hj _ t
    have : n = 0 := by omega
    subst this
    rw [htt.a0]; exact ht.temps 0 (Nat.le_refl _) t
  | succ j ih =>
    intro hj hl t
    by_cases e : n = j + 1
    · have := ht.temps n (Nat.le_refl _) t
      rw [← htt.a0] at this
      rw [← e]; exact this
    · have h1 : ops[j]? = some (ops[j]'(by omega)) := List.getElem?_eq_getElem (by omega)
      rw [(htt.tk j _ (by omega) h1).ha']
      simp only [lastV, dstAt, h1, Option.bind_some]
      cases hd : (ops[j]'(by omega)).dst with
      | none => rw [if_neg (by simp)]; exact ih (by omega) (by omega) t
      | some d =>
        show (A.put d (vl j) (tbit ks d) (ta j)).get t = _
        rw [A.get_put]
        by_cases e : d = t
        · subst e; rw [if_pos rfl, if_pos ⟨trivial, rfl⟩]
        · rw [if_neg e, if_neg (by simp [e])]; exact ih (by omega) (by omega) t

structure TInv (ops : List Oper) (n : Nat) (tr : Nat → Rg) (vl : Nat → V) (up : Nat → Option (Nat × Blk)) (nt : Nat) (ρ0 : Mp) (s0 : St) (H0 : Array Obj) (w0 : World) (act0 : Act) (S : Nat → Bool) (act : Act) (w : World) (ρ : Mp) : Prop where
  cov : ∀ i, i < n → S i = true
  post : ∃ s : St, Post ρ0 s0 H0 ρ s w.heap ∧ s.nx = (tr n).s.nx ∧ ∀ x, s.h.get x = tGet (tr n).s.h.get up S ops.length x
  temps : ∀ t, VRel ρ (lastV ops (tr 0).a vl S ops.length t) (act.tmps.getD t undef)
  sz : nt ≤ act.tmps.size
  d : act.defers = act0.defers
  sm : Same w0 w

theorem lastV_stop {a0 : A} {t : Nat} : ∀ k, n ≤ k → (∀ i, n ≤ i → S i = false) → lastV ops a0 vl S k t = lastV ops a0 vl S n t := by
  intro k
  induction k with
  | zero => intro h _; have : n = 0 := by omega
            subst this; rfl
  | succ k ih =>
    intro h hs
    by_cases e : n = k + 1
    · subst e; rfl
    · simp only [lastV]
      rw [if_neg (by rw [hs k (by omega)]; simp)]
      exact ih (by omega) hs

theorem DInv.toTail (ht : Tr E call ks ops base n tr vl) (htt : TT E ks ops n tr ta vl up) (h : DInv E ops base n tr vl nt ρ0 s0 H0 w0 act0 S act w q ρ) (hc : ∀ i, i < n → S i = true) (hz : ∀ i, n ≤ i → S i = false) :
    TInv ops n tr vl up nt ρ0 s0 H0 w0 act0 S act w ρ := by
  have hno : ∀ i, q ≤ i → i < n → ¬ IsA E ops n tr i := fun i a b c => by have := h.aS i c (hc i b); omega
  have hadv := h.advance ht h.qn (Nat.le_refl _) hno (fun i b _ a _ => hc i a)
  refine ⟨hc, ⟨(tr n).s, hadv, rfl, fun x => ?_⟩, fun t => ?_, h.sz, h.d, h.sm⟩
  · rw [tGet_not]
    intro i y _ hs hu
    rcases Nat.lt_or_ge i n with g | g
    · rw [htt.lo i g] at hu; cases hu
    · rw [hz i g] at hs; cases hs
  · rw [lastV_stop ops.length ht.nl hz]
    exact h.temps t

theorem TInv.step (hE : EnvOk E P) (hcall : CallOk P ng call) (ht : Tr E call ks ops base n tr vl) (htt : TT E ks ops n tr ta vl up) (h : TInv ops n tr vl up nt ρ0 s0 H0 w0 act0 S act w ρ)
    (h0 : HRel ρ0 s0.h.get s0.nx H0) (hg0 : GOk ng ρ0) (hops : ∀ o ∈ ops, operOk nt ng o = true)
    {j : Nat} {o : Oper} {m : Nat} (hnj : n ≤ j) (ho : ops[j]? = some o) (hm : (masks ops)[j]? = some m) (hs : S j = false)
    (hin : ∀ i, m.testBit i = true → S i = true) (hcl : ∀ i mi, S i = true → (masks ops)[i]? = some mi → ∀ k, mi.testBit k = true → S k = true)
    {K : Act → World → Prop} {Q : Exit → Act → World → Prop} (hK : ∀ act' w' ρ', TInv ops n tr vl up nt ρ0 s0 H0 w0 act0 (put1 S j) act' w' ρ' → K act' w') : wpOp P ops.toArray Q j K act w := by
  have hjl : j < ops.length := (List.getElem?_eq_some_iff.1 ho).1
  have hoper := hops o (List.mem_of_getElem? ho)
  obtain ⟨s, hp, hnx, hh⟩ := h.post
  have hg : GOk ng ρ := fun g hn => by
    obtain ⟨p, h1, h2⟩ := hg0 g hn
    exact ⟨p, by rw [hp.ext g (h0.dom g p h1)]; exact h1, h2⟩
  have early : ∀ t, Looks ops o t → ∀ i, i < j → dstAt ops i = some t → S i = true := by
    intro t hl i hi hd
    have hx : ops[i]? = some ops[i] := List.getElem?_eq_getElem (by omega)
    rcases (opsOk_spec ht.ok ho hm).2 i _ hx hi with g | g
    · exact hin i g
    · have hd' : (ops[i]).dst = some t := by unfold dstAt at hd; rw [hx] at hd; exact hd
      exact absurd hl ((apart_looks g).1 t hd').1
  have late : ∀ t, (Looks ops o t ∨ o.dst = some t) → ∀ i, j < i → i < ops.length → dstAt ops i = some t → S i = false := by
    intro t hl i hi hin' hd
    cases hsi : S i with
    | false => rfl
    | true =>
      exfalso
      have k1 : ops[i]? = some ops[i] := List.getElem?_eq_getElem (by omega)
      have k2 : (masks ops)[i]? = some ((masks ops)[i]'(by rw [(masks_spec ops).1]; omega)) := List.getElem?_eq_getElem (by rw [(masks_spec ops).1]; omega)
      have hd' : (ops[i]).dst = some t := by unfold dstAt at hd; rw [k1] at hd; exact hd
      rcases (opsOk_spec ht.ok k1 k2).2 j o ho hi with g | g
      · have := hcl i _ hsi k2 j g
        rw [hs] at this; cases this
      · rcases hl with hl | hl
        · exact (apart_looks g).2 t hd' hl
        · exact ((apart_looks g).1 t hl).2 hd'
  have hl : ∀ t, Looks ops o t → VRel ρ ((ta j).get t) (act.tmps.getD t undef) := by
    intro t hlk
    rw [htt.temps ht j hnj (by omega) t, ← lastV_eq (S := S) (early t hlk) ops.length (by omega) (fun i h1 h2 h3 => by
      by_cases e : i = j
      · subst e; exact hs
      · exact late t (.inl hlk) i (by omega) h2 h3)]
    exact h.temps t
  have hopr : ∀ x ∈ o.op.operands, OpRel ρ (ta j) act.eval x := by
    intro x hx
    have h2 := hoper
    unfold operOk at h2
    rw [Bool.and_eq_true, List.all_eq_true] at h2
    refine opRel' (fun t e => hl t (.inl ?_)) hg (h2.2 x (by simpa using hx))
    subst e; simpa using hx
  have htemps : ∀ (ρ' : Mp) (u : Value), ρ.le ρ' → VRel ρ' (vl j) u → ∀ t, VRel ρ' (lastV ops (tr 0).a vl (put1 S j) ops.length t) ((act.put o.dst u).tmps.getD t undef) := by
    intro ρ' u hle hv t
    by_cases hd : o.dst = some t
    · have hda : dstAt ops j = some t := by unfold dstAt; rw [ho]; exact hd
      rw [lastV_at hda (put1_self S j) ops.length hjl (fun i h1 h2 h3 => by rw [put1_ne (by omega)]; exact late t (.inr hd) i h1 h2 h3)]
      have h2 := hoper
      unfold operOk at h2
      rw [Bool.and_eq_true, hd] at h2
      have htn : t + 1 ≤ nt := Nat.le_of_ble_eq_true h2.1
      have := h.sz
      rw [hd]
      show VRel ρ' (vl j) ((act.tmps.setIfInBounds t u).getD t undef)
      have hts : t < act.tmps.size := by omega
      simp [hts]; exact hv
    · rw [lastV_same (S := S) ops.length (fun i h1 h2 => by
        rw [put1_ne]
        intro e; subst e
        unfold dstAt at h2; rw [ho] at h2; exact hd h2)]
      have : (act.put o.dst u).tmps.getD t undef = act.tmps.getD t undef := by
        cases hdd : o.dst with
        | none => rfl
        | some d =>
          have hne : d ≠ t := fun e => hd (by rw [hdd, e])
          show (act.tmps.setIfInBounds d u).getD t undef = _
          simp [Array.getD_eq_getD_getElem?, Array.getElem?_setIfInBounds_ne hne]
      rw [this]
      exact (h.temps t).mono hle
  unfold wpOp
  rw [List.getElem?_toArray, ho]
  simp only []
  have htk := htt.tk j o hnj ho
  have hguard : o.guard = none := by cases htk <;> assumption
  have hwant : Region.wanted o (yielded ops.toArray act.tmps) = true := by unfold Region.wanted; rw [hguard]
  rw [hwant]
  simp only [if_true]
  left
  cases htk with
  | pure _ rd f hk hf ha hu =>
    have hsee : Sees ρ (fun _ => none) w.heap := ⟨(fun x b p hx => by cases hx), hp.rel.lies⟩
    obtain ⟨u, r1, r2⟩ := r_sound hE hsee o hopr hk hf
    refine upon_value r1 (hK _ _ ρ ⟨fun i hi => put1_of (h.cov i hi), ⟨s, hp, hnx, fun x => ?_⟩, htemps ρ u (Mp.le_refl ρ) r2, by rw [put_size]; exact h.sz, by rw [put_defers]; exact h.d, h.sm⟩)
    rw [tGet_skip hu]; exact hh x
  | store _ f hk b r y hu hv ha hr hst =>
    have hsb : s.h.get b = (tr n).s.h.get b := by
      rw [hh b, tGet_not]
      intro i y' hi hsi hub
      have hij : i ≠ j := fun e => by subst e; rw [hs] at hsi; cases hsi
      rcases Nat.lt_or_ge i j with g | g
      · exact htt.ap i j b y' b y g hub hu rfl
      · exact htt.ap j i b y b y' (by omega) hu hub rfl
    have hf := hst call s (by rw [rowOf_congr hsb]; exact hr)
    refine a_sound hE hcall hp.rel hg o hopr hk hf fun u w' hd => ?_
    obtain ⟨ρ', ⟨hp', hsm⟩, hv'⟩ := hd
    have hle := hp'.le hp.rel
    refine hK _ _ ρ' ⟨fun i hi => put1_of (h.cov i hi), ⟨_, hp.trans hp', hnx, fun x => ?_⟩, htemps ρ' u hle (by rw [hv]; exact hv'), by rw [put_size]; exact h.sz, by rw [put_defers]; exact h.d, h.sm.trans hsm⟩
    show (s.h.set b y).get x = _
    rw [T.get_set, tGet_put htt.ap hu hjl, hh x]

theorem any_inv (I : (Nat → Bool) → Act → World → Prop) (hok : opsOk ops = true) {Q : Exit → Act → World → Prop}
    (hstep : ∀ S act w j o m, ops[j]? = some o → (masks ops)[j]? = some m → S j = false → (∀ i, m.testBit i = true → S i = true) →
      (∀ i mi, S i = true → (masks ops)[i]? = some mi → ∀ k, mi.testBit k = true → S k = true) → I S act w → ∀ K : Act → World → Prop, (∀ act' w', I (put1 S j) act' w' → K act' w') → wpOp P ops.toArray Q j K act w)
    (hQ : ∀ act w S, (∀ i, i < ops.length → S i = true) → I S act w → Q .normal act w) :
    ∀ (fuel : Nat) (listed : Array Bool) (act : Act) (w : World), listed.size = ops.length → (List.range ops.length).countP (fun i => !listed.getD i false) ≤ fuel →
      (∀ i mi, listed.getD i false = true → (masks ops)[i]? = some mi → ∀ k, mi.testBit k = true → listed.getD k false = true) →
      I (fun i => listed.getD i false) act w → wpAny P .any ops.toArray Q fuel listed act w := by
  have hmask : ∀ j, j < ops.length → ∃ m, (masks ops)[j]? = some m := fun j hj => ⟨_, List.getElem?_eq_getElem (by rw [(masks_spec ops).1]; exact hj)⟩
  have full : ∀ (listed : Array Bool), listed.size = ops.length → Region.ready .any ops.toArray listed = [] → ∀ i, i < ops.length → listed.getD i false = true := by
    intro listed hsz hr i
    induction i using Nat.strongRecOn with
    | _ i ih =>
      intro hi
      cases hs : listed.getD i false with
      | true => rfl
      | false =>
        exfalso
        have g1 : ops[i]? = some ops[i] := List.getElem?_eq_getElem hi
        obtain ⟨m, g2⟩ := hmask i hi
        have : i ∈ Region.ready .any ops.toArray listed := by
          rw [mem_ready]
          refine ⟨?_, _, by rw [List.getElem?_toArray]; exact g1, fun e he hb => ?_⟩
          · rw [Array.getD_eq_getD_getElem?, Array.getElem?_eq_getElem (by omega)] at hs ⊢
            exact hs
          · have hbit := masks_mem ops g1 g2 he hb
            have hlt := (opsOk_spec hok g1 g2).1 e.on hbit
            exact ih e.on hlt (by omega)
        rw [hr] at this; cases this
  intro fuel
  induction fuel with
  | zero =>
    intro listed act w hsz hc hcl hi
    have hall : ∀ i, i < ops.length → listed.getD i false = true := by
      intro i hi'
      have : (List.range ops.length).countP (fun i => !listed.getD i false) = 0 := by omega
      rw [List.countP_eq_zero] at this
      have := this i (List.mem_range.2 hi')
      simpa using this
    refine ⟨?_, hQ act w _ hall hi⟩
    cases hr : Region.ready .any ops.toArray listed with
    | nil => rfl
    | cons j l =>
      exfalso
      have hj : j ∈ Region.ready .any ops.toArray listed := by rw [hr]; simp
      rw [mem_ready] at hj
      obtain ⟨h1, o, h2, _⟩ := hj
      rw [List.getElem?_toArray] at h2
      have hjn := (List.getElem?_eq_some_iff.1 h2).1
      have := hall j hjn
      rw [Array.getD_eq_getD_getElem?, Array.getElem?_eq_getElem (by omega)] at h1 this
      rw [Option.getD_some] at h1 this
      rw [h1] at this; cases this
  | succ fuel ih =>
    intro listed act w hsz hc hcl hi
    refine ⟨fun hr => hQ act w _ (full listed hsz hr) hi, fun j hj => ?_⟩
    rw [mem_ready] at hj
    obtain ⟨h1, o, h2, h3⟩ := hj
    rw [List.getElem?_toArray] at h2
    have hjn := (List.getElem?_eq_some_iff.1 h2).1
    obtain ⟨m, g2⟩ := hmask j hjn
    have hs : listed.getD j false = false := by
      rw [Array.getD_eq_getD_getElem?, Array.getElem?_eq_getElem (by omega)] at h1 ⊢
      exact h1
    have hin : ∀ i, m.testBit i = true → listed.getD i false = true := by
      intro i hb
      obtain ⟨e, he, hbd, hor⟩ := (masks_spec ops).2 j o m h2 g2 i hb
      have hon := h3 e (by simpa using he) hbd
      rcases hor with rfl | ⟨_, m', k1, k2⟩
      · exact hon
      · exact hcl e.on m' hon k1 i k2
    have hput : (fun i => (listed.setIfInBounds j true).getD i false) = put1 (fun i => listed.getD i false) j := by
      funext i
      show (listed.setIfInBounds j true).getD i false = (decide (i = j) || listed.getD i false)
      rw [Array.getD_eq_getD_getElem?, Array.getD_eq_getD_getElem?, Array.getElem?_setIfInBounds]
      by_cases e : i = j
      · subst e; simp [show i < listed.size by omega]
      · rw [if_neg (Ne.symm e)]; simp [e]
    refine hstep _ act w j o m h2 g2 hs hin hcl hi _ fun act' w' hd => ?_
    refine ih _ act' w' (by simpa using hsz) ?_ ?_ (by rw [hput]; exact hd)
    · have := count_set (S := fun i => listed.getD i false) hjn hs
      have e : (fun i => !(listed.setIfInBounds j true).getD i false) = fun i => !put1 (fun i => listed.getD i false) j i := by
        funext i; rw [← congrFun hput i]
      rw [e]; omega
    · intro i mi hsi hmi k hb
      have hsi' : put1 (fun i => listed.getD i false) j i = true := by rw [← congrFun hput i]; exact hsi
      have : put1 (fun i => listed.getD i false) j k = true := by
        by_cases e : i = j
        · subst e
          rw [g2] at hmi; cases hmi
          exact put1_of (hin k hb)
        · rw [put1_ne e] at hsi'
          exact put1_of (hcl i mi hsi' hmi k hb)
      rw [← congrFun hput k] at this; exact this

theorem two_sound (hE : EnvOk E P) (hcall : CallOk P ng call) {a : A} {hh : T Blk} {l1 l2 : List Oper} {g' : Rg} {a' : A} {s' : St} (hok : opsOk ops = true) (hl1 : ∀ (i : Nat) (o : Oper), l1[i]? = some o → ops[i]? = some o)
    (hl1' : ∀ (i : Nat) (o : Oper), i < l1.length → ops[i]? = some o → l1[i]? = some o) (hl2 : ∀ (i : Nat) (o : Oper), ops[l1.length + i]? = some o → l2[i]? = some o) (hlen : ops.length = l1.length + l2.length)
    (hcov : ∀ (j : Nat) (o : Oper) (m : Nat), l1.length ≤ j → ops[j]? = some o → (masks ops)[j]? = some m → ∀ i, i < l1.length → m.testBit i = true)
    (hd : drawOps E call ks ops base l1 (masks ops) 0 ⟨a, ⟨hh, Nat.add base ops.length⟩, [], [], 0⟩ = some g') (htl : tailOps E ks l2 g'.a g'.s [] = .ok a' s')
    (hops : ∀ o ∈ ops, operOk nt ng o = true) (hi : Inv ks nt ng ρ a act ⟨hh, base⟩ w)
    {Q : Exit → Act → World → Prop} (hQ : ∀ ρ' act' w', Goes ks nt ng ρ ⟨hh, base⟩ w act ρ' a' s' act' w' → Q .normal act' w') : wpAny P .any ops.toArray Q ops.toArray.size (Array.replicate ops.toArray.size false) act { w with drawn := w.drawn + 1 } := by
  obtain ⟨tr, vl1, h1, h2, h3⟩ := drawOps_tr l1 (masks ops) 0 _ g' hd
  rw [Nat.zero_add] at h2
  obtain ⟨ta, vl2, up, t1, t2, t3, t4, t5, t6, t7, t8⟩ := tailOps_tr (h0 := g'.s.h.get) l2 l1.length g'.a g'.s [] a' s' htl (fun _ _ => rfl)
  obtain ⟨vl, hvl⟩ : ∃ vl : Nat → V, vl = fun i => if i < l1.length then vl1 i else vl2 i := ⟨_, rfl⟩
  have ht : Tr E call ks ops base l1.length tr vl := ⟨hok, by omega, fun j o hj ho => by
    obtain ⟨m, q1, q2⟩ := h3 j o (hl1' j o hj ho)
    rw [Nat.zero_add] at q2
    refine ⟨m, q1, ?_⟩
    rw [hvl]
    show Kd E call ks ops o j m base (tr j) (tr (j + 1)) (if j < l1.length then vl1 j else vl2 j)
    rw [if_pos hj]; exact q2, by rw [h1], by rw [h1]⟩
  have htt : TT E ks ops l1.length tr ta vl up := ⟨by rw [t1, h2], fun j o hj ho => by
    have := t4 (j - l1.length) o (hl2 _ o (by rw [show l1.length + (j - l1.length) = j by omega]; exact ho))
    rw [show l1.length + (j - l1.length) = j by omega] at this
    rw [h2, hvl]
    show TK E ks g'.s.h.get o (ta j) (ta (j + 1)) (if j < l1.length then vl1 j else vl2 j) (up j)
    rw [if_neg (by omega)]; exact this, t5, t7, hcov⟩
  have hrel : HRel ρ (tr 0).s.h.get (tr 0).s.nx w.heap := by
    rw [h1]
    exact hi.h.congr (fun _ => rfl) (Nat.le_add_right _ _)
  have hfresh : ∀ i, ρ (base + i) = none := fun i => hi.h.fresh (by show base ≤ base + i; omega)
  have h0' : HRel ρ (⟨hh, base⟩ : St).h.get (⟨hh, base⟩ : St).nx w.heap := hi.h
  let I : (Nat → Bool) → Act → World → Prop := fun S act' w' =>
    ((∀ i, l1.length ≤ i → S i = false) ∧ ∃ q ρ', DInv E ops base l1.length tr vl nt ρ ⟨hh, base⟩ w.heap w act S act' w' q ρ') ∨ ∃ ρ', TInv ops l1.length tr vl up nt ρ ⟨hh, base⟩ w.heap w act S act' w' ρ'
  refine any_inv (ops := ops) I hok (Q := Q) ?_ ?_ _ _ act _ (by simp) ?_ ?_ ?_
  · intro S act1 w1 j o m ho hm hs hin hcl hI K hK
    rcases hI with ⟨hz, q, ρ', hD⟩ | ⟨ρ', hT⟩
    · by_cases hj : j < l1.length
      · obtain ⟨m', g1, g2⟩ := ht.kd j o hj ho
        rw [hm] at g1; cases g1
        refine hD.step hE hcall ht h0' hi.g rfl hops hj ho hm g2 hs hin hcl fun act' w' q' ρ'' hd' => hK _ _ (.inl ⟨fun i hi' => ?_, q', ρ'', hd'⟩)
        rw [put1_ne (by omega)]; exact hz i hi'
      · have hT := hD.toTail ht htt (fun i hi' => hin i (hcov j o m (by omega) ho hm i hi')) hz
        exact hT.step hE hcall ht htt h0' hi.g hops (by omega) ho hm hs hin hcl fun act' w' ρ'' hd' => hK _ _ (.inr ⟨ρ'', hd'⟩)
    · have hj : l1.length ≤ j := by
        rcases Nat.lt_or_ge j l1.length with g | g
        · have := hT.cov j g; rw [hs] at this; cases this
        · exact g
      exact hT.step hE hcall ht htt h0' hi.g hops hj ho hm hs hin hcl fun act' w' ρ'' hd' => hK _ _ (.inr ⟨ρ'', hd'⟩)
  · intro act1 w1 S hall hI
    have hT : ∃ ρ', TInv ops l1.length tr vl up nt ρ ⟨hh, base⟩ w.heap w act S act1 w1 ρ' := by
      rcases hI with ⟨hz, q, ρ', hD⟩ | hT
      · exact ⟨ρ', hD.toTail ht htt (fun i hi' => hall i (by omega)) hz⟩
      · exact hT
    obtain ⟨ρ', hT⟩ := hT
    obtain ⟨s, hp, hnx, hg⟩ := hT.post
    have hg' : ∀ x, s'.h.get x = s.h.get x := by
      intro x
      rw [hg x, h2]
      rcases t8 x with ⟨i, y, hi', hx, hy⟩ | ⟨hno, hy⟩
      · rw [hy, tGet_at t7 hx (hall i (by omega)) ops.length (by omega)]
      · rw [hy, tGet_not]
        intro i y _ _; exact hno i y
    have hnx' : s'.nx = s.nx := by rw [t3, hnx, h2]
    have hpost : Post ρ ⟨hh, base⟩ w.heap ρ' s' w1.heap := by
      refine ⟨hp.m, hp.mn, hp.ext, by rw [hnx']; exact hp.nx, by rw [hnx']; exact hp.rel.congr hg' (Nat.le_refl _), hp.sz, hp.frame, ?_, ?_⟩
      · intro b x p hx; rw [hg' b] at hx; exact hp.wrs b x p hx
      · intro b x p hx; rw [hg' b] at hx; exact hp.alv b x p hx
    have ha' : ta ops.length = a' := by rw [hlen]; exact t2
    refine hQ ρ' act1 w1 ⟨hpost, ⟨fun t => ?_, ?_, hpost.rel, hi.g.post hi.h hpost, hT.sz⟩, Marks.of_eq hT.d, hT.sm⟩
    · have h4 := hT.temps t
      rw [lastV_eq (S := S) (j := ops.length) (fun i hi _ => hall i hi) ops.length (Nat.le_refl _) (fun i h1 h2 _ => by omega), ← htt.temps ht ops.length (by omega) (Nat.le_refl _) t, ha'] at h4
      exact h4
    · have w1' : ∀ j, j ≤ l1.length → Wf ks (tr j).a := by
        intro j
        induction j with
        | zero => intro _; rw [h1]; exact hi.wf
        | succ j ih =>
          intro hj
          obtain ⟨o, m, _, _, k3⟩ := ht.get (j := j) (by omega)
          rw [k3.ha]
          exact (ih (by omega)).put _ _
      have w2' : ∀ j, l1.length ≤ j → j ≤ ops.length → Wf ks (ta j) := by
        intro j
        induction j with
        | zero => intro hj _; have e : l1.length = 0 := by omega
                  have := w1' 0 (by omega)
                  rw [← e, ← htt.a0, e] at this; exact this
        | succ j ih =>
          intro hj hj'
          by_cases e : l1.length = j + 1
          · have := w1' l1.length (Nat.le_refl _)
            rw [← htt.a0, e] at this; exact this
          · have hx : ops[j]? = some (ops[j]'(by omega)) := List.getElem?_eq_getElem (by omega)
            rw [(htt.tk j _ (by omega) hx).ha']
            exact (ih (by omega) (by omega)).put _ _
      have := w2' ops.length (by omega) (Nat.le_refl _)
      rw [ha'] at this
      exact this
  · refine Nat.le_trans List.countP_le_length ?_
    simp
  · intro i mi hs
    simp [Array.getD_eq_getD_getElem?, Array.getElem?_replicate] at hs
    split at hs <;> simp at hs
  · have hfalse : ∀ i, (Array.replicate ops.toArray.size false).getD i false = false := by
      intro i
      simp [Array.getD_eq_getD_getElem?, Array.getElem?_replicate]
      split <;> rfl
    refine .inl ⟨fun i _ => hfalse i, 0, ρ, ?_⟩
    refine ⟨Nat.zero_le _, .inl rfl, fun i _ hs => ?_, fun i hi' => by omega, ?_, ?_, fun i b _ _ hs => ?_, fun i i' b b' p p' _ _ _ _ hs => ?_, fun i b _ _ _ => hfresh i, fun t => ?_, hi.sz, rfl, ⟨rfl, rfl, rfl⟩⟩
    · rw [hfalse] at hs; cases hs
    · rw [h1]
      exact ⟨Snap.le_refl _, fun _ _ _ h => .inl h, fun _ _ => rfl, Nat.le_add_right _ _, hi.h.congr (fun _ => rfl) (Nat.le_add_right _ _), Nat.le_refl _, fun _ _ _ => rfl, fun b x p a b' c _ => ⟨b, x, p, a, b', c, rfl⟩, fun b x p a b' c _ => ⟨b, x, p, a, b', c, rfl⟩⟩
    · rw [h1]; exact Nat.le_refl _
    · rw [hfalse] at hs; cases hs
    · rw [hfalse] at hs; cases hs
    · rw [lastV_eq (S := fun i => (Array.replicate ops.toArray.size false).getD i false) (j := 0) (fun i hi => by omega) l1.length (Nat.zero_le _) (fun i _ _ _ => hfalse i)]
      show VRel ρ ((tr 0).a.get t) _
      rw [h1]
      exact hi.t t

theorem tailChk_spec (t : Nat) : ∀ l : List Nat, tailChk t l = true → ∀ m ∈ l, ∀ i, i < t → m.testBit i = true := by
  intro l
  induction l with
  | nil => intro _ m h; simp at h
  | cons x l ih =>
    intro h m hm i hi
    simp only [tailChk] at h
    cases hb : Nat.beq (Nat.mod x (Nat.shiftLeft 1 t)) (Nat.sub (Nat.shiftLeft 1 t) 1) with
    | false => rw [hb] at h; cases h
    | true =>
      rw [hb] at h
      rcases List.mem_cons.1 hm with rfl | hm
      · have h1 : m % (1 <<< t) = 1 <<< t - 1 := Nat.eq_of_beq_eq_true hb
        rw [Nat.shiftLeft_eq, Nat.one_mul] at h1
        have h2 := congrArg (fun x => x.testBit i) h1
        simp only [Nat.testBit_mod_two_pow, Nat.testBit_two_pow_sub_one, hi, decide_true, Bool.true_and] at h2
        exact h2
      · exact ih h m hm i hi

theorem draw_sound (hE : EnvOk E P) (hcall : CallOk P ng call) : DrawOk P E ng call := by
  intro ks nt ops a s act w ρ a' s' Q hops hi hr hQ
  unfold evDraw at hr
  cases hok : opsOk ops with
  | false => rw [hok] at hr; cases hr
  | true =>
    rw [hok] at hr
    simp only [] at hr
    obtain ⟨hh, base⟩ := s
    cases htl : tailAt ops ops (masks ops) 0 0 with
    | zero =>
      rw [htl] at hr
      simp only [evDraw0, lenA_zero] at hr
      cases hd : drawOps E call ks ops base ops (masks ops) 0 ⟨a, ⟨hh, Nat.add base ops.length⟩, [], [], 0⟩ with
      | none => rw [hd] at hr; cases hr
      | some g' =>
        rw [hd] at hr
        obtain ⟨ga, gs, g1, g2, g3⟩ := g'
        exact two_sound (l1 := ops) (l2 := []) hE hcall hok (fun _ _ h => h) (fun _ _ _ h => h) (fun i o h => by rw [List.getElem?_eq_none (by omega)] at h; cases h) (by simp)
          (fun j o m hj ho => by rw [List.getElem?_eq_none hj] at ho; cases ho) hd hr hops hi hQ
    | succ t0 =>
      rw [htl] at hr
      simp only [] at hr
      cases hck : tailChk (t0 + 1) ((masks ops).drop (t0 + 1)) with
      | false => rw [hck] at hr; cases hr
      | true =>
        rw [hck] at hr
        simp only [evDraw0, lenA_zero] at hr
        cases hd : drawOps E call ks ops base (ops.take (t0 + 1)) (masks ops) 0 ⟨a, ⟨hh, Nat.add base ops.length⟩, [], [], 0⟩ with
        | none => rw [hd] at hr; cases hr
        | some g' =>
          rw [hd] at hr
          obtain ⟨ga, gs, g1, g2, g3⟩ := g'
          have hlt : (ops.take (t0 + 1)).length = min (t0 + 1) ops.length := by simp
          refine two_sound (l1 := ops.take (t0 + 1)) (l2 := ops.drop (t0 + 1)) hE hcall hok ?_ ?_ ?_ ?_ ?_ hd hr hops hi hQ
          · intro i o h
            rw [List.getElem?_take] at h
            split at h
            · exact h
            · cases h
          · intro i o h1 h2
            rw [List.getElem?_take, if_pos (by omega)]; exact h2
          · intro i o h
            have := (List.getElem?_eq_some_iff.1 h).1
            rw [List.getElem?_drop, ← h]
            congr 1; omega
          · rw [hlt]; simp; omega
          · intro j o m hj ho hm i hi'
            have hjl := (List.getElem?_eq_some_iff.1 ho).1
            refine tailChk_spec (t0 + 1) _ hck m ?_ i (by omega)
            have : ((masks ops).drop (t0 + 1))[j - (t0 + 1)]? = some m := by
              rw [List.getElem?_drop, ← hm]; congr 1; omega
            exact List.mem_of_getElem? this

end
end Ev

set_option linter.unusedVariables false
set_option linter.unusedSimpArgs false
namespace Ev
open Go

theorem pairT_get {α : Type} (k : Nat) : ∀ (l : List (Nat × α)) (t : T α) (x : α), (pairT l t).get k = some x → t.get k = some x ∨ (k, x) ∈ l := by
  intro l
  induction l with
  | nil => intro t x h; exact .inl h
  | cons p l ih =>
    intro t x h
    obtain ⟨i, y⟩ := p
    rcases ih (t.set i y) x h with g | g
    · rw [T.get_set] at g
      split at g
      · rename_i e; cases g; subst e; exact .inr (by simp)
      · exact .inl g
    · exact .inr (by simp [g])

theorem tabT_get (P : Program) (k : Nat) (i : TI) : ∀ (l : List TypeInfo) (n : Nat) (t : T TI), (tabT P l n t).get k = some i → t.get k = some i ∨ ∃ f d, n ≤ k ∧ l[k - n]? = some f ∧ undOf P f.desc = some d ∧ i = tiOf f d (P.stoodInHeld k) := by
  intro l
  induction l with
  | nil => intro n t h; exact .inl h
  | cons f l ih =>
    intro n t h
    have later : (∃ f' d, Nat.succ n ≤ k ∧ l[k - Nat.succ n]? = some f' ∧ undOf P f'.desc = some d ∧ i = tiOf f' d (P.stoodInHeld k)) → ∃ f' d, n ≤ k ∧ (f :: l)[k - n]? = some f' ∧ undOf P f'.desc = some d ∧ i = tiOf f' d (P.stoodInHeld k) := by
      rintro ⟨f', d, h1, h2, h3, h4⟩
      exact ⟨f', d, by omega, by rw [show k - n = (k - Nat.succ n) + 1 by omega]; exact h2, h3, h4⟩
    simp only [tabT] at h
    cases hd : undOf P f.desc with
    | none =>
      rw [hd] at h
      rcases ih _ _ h with g | g
      · exact .inl g
      · exact .inr (later g)
    | some d =>
      rw [hd] at h
      rcases ih _ _ h with g | g
      · rw [T.get_set] at g
        split at g
        · rename_i e; subst e; cases g
          exact .inr ⟨f, d, Nat.le_refl _, by simp, hd, rfl⟩
        · exact .inl g
      · exact .inr (later g)

theorem zeroOf_ok {agg : Bool} {v : Option Value} {l : List C} (h : zeroOf agg v = some l) : ∃ u, v = some u ∧ ∀ ρ : Mp, (∀ w, mkW agg l = some w → WRel ρ w u) ∧ LRel ρ l u.cells.toList := by
  unfold zeroOf at h
  cases v with
  | none => cases h
  | some u =>
    simp only [] at h
    refine ⟨u, rfl, fun ρ => ?_⟩
    have hc := conv_rel (ρ := ρ) u
    cases hv : conv u with
    | un => rw [hv] at h; cases h
    | tup _ => rw [hv] at h; cases h
    | w x =>
      rw [hv] at h hc
      cases x with
      | c x =>
        cases agg with
        | true => cases h
        | false =>
          cases h
          refine ⟨fun w hw => ?_, WRel.cells (w := .c x) hc⟩
          cases hw; exact hc
      | agg r =>
        cases agg with
        | false => cases h
        | true =>
          cases h
          refine ⟨fun w hw => ?_, WRel.cells (w := .agg l) hc⟩
          cases hw; exact hc

def typesOk (P : Program) : Bool := P.types.toList.all fun f => match undOf P f.desc with
  | none => true
  | some d => or (!plainD d) f.comparable

theorem info_of {P : Program} {t : TypeId} {f : TypeInfo} (h : P.types[t]? = some f) : P.info? t = some f := by
  unfold Tables.info?
  rw [if_pos (Array.getElem?_eq_some_iff.1 h).1, h]
theorem und_eq {P : Program} {t : TypeId} {f : TypeInfo} {d : TypeDesc} (hf : P.info? t = some f) (hd : undOf P f.desc = some d) : P.underlying t = some d := by
  unfold Program.underlying
  rw [hf]
  obtain ⟨desc, _⟩ := f
  cases desc <;> simp only [undOf] at hd ⊢ <;> try (exact hd)
  rename_i n u
  cases hu : P.types[u]? with
  | none => rw [hu] at hd; cases hd
  | some j => rw [hu] at hd; rw [info_of hu]; exact hd

theorem envOf_ok (P : Program) (exts : List (Nat × Ext)) (kps : List (Nat × Nat)) (hany : P.follows .mixedOrders = true) (ht : typesOk P = true) : EnvOk (envOf P exts kps) P where
  any := hany
  tabz t i z hi hz := by
    have hi : (tabT P P.types.toList 0 .nil).get t = some i := hi
    rcases tabT_get P t i _ _ _ hi with g | ⟨f, d, _, _, _, rfl⟩
    · cases g
    · have : zeroIn f.size (zeroOf (isAggT d) f.zero) = some z := hz
      unfold zeroIn at this
      cases h : zeroOf (isAggT d) f.zero with
      | none => rw [h] at this; cases this
      | some l =>
        rw [h] at this
        simp only [] at this
        cases hb : Nat.beq (lenA l 0) f.size with
        | false => rw [hb] at this; cases this
        | true =>
          rw [hb] at this; cases this
          have := Nat.eq_of_beq_eq_true hb
          rw [lenA_zero] at this; exact this
  tab t i hi := by
    have hi : (tabT P P.types.toList 0 .nil).get t = some i := hi
    rcases tabT_get P t i _ _ _ hi with g | ⟨f, d, _, hf, hd, rfl⟩
    · cases g
    · have hf' : P.info? t = some f := info_of (by simpa using hf)
      refine ⟨f, hf', rfl, rfl, und_eq hf' hd, rfl, fun hp => ?_, fun z hz => ?_⟩
      · have h1 := (List.all_eq_true.1 ht) f (List.mem_of_getElem? hf)
        rw [hd] at h1
        have hp' : plainD d = true := hp
        simpa [hp'] using h1
      · have : zeroIn f.size (zeroOf (isAggT d) f.zero) = some z := hz
        unfold zeroIn at this
        cases h : zeroOf (isAggT d) f.zero with
        | none => rw [h] at this; cases this
        | some l =>
          rw [h] at this
          simp only [] at this
          cases hb : Nat.beq (lenA l 0) f.size with
          | false => rw [hb] at this; cases this
          | true => rw [hb] at this; cases this; exact zeroOf_ok h

def fnOk (P : Program) (f : Nat) : Bool := match P.funcs[f]? with
  | none => true
  | some fn => and (!(fn.name == "runtime.NumGoroutine")) (match fn.body with
    | none => true
    | some c => codeOk fn.ntmps P.globals.size c)
theorem kps_ok (P : Program) (exts : List (Nat × Ext)) (kps : List (Nat × Nat)) (h : kps.all (fun p => fnOk P p.1) = true) : KpsOk (envOf P exts kps) P P.globals.size where
  ok f ks fn hk hf := by
    have hk : (pairT kps .nil).get f = some ks := hk
    have hf : (T.ofL P.funcs.toList).get f = some fn := hf
    rw [T.get_ofL] at hf
    have hP : P.funcs[f]? = some fn := by simpa using hf
    rcases pairT_get f _ _ _ hk with g | g
    · cases g
    · have := (List.all_eq_true.1 h) _ g
      unfold fnOk at this
      simp only [hP, Bool.and_eq_true, Bool.not_eq_true'] at this
      refine ⟨hP, this.1, fun c hc => ?_⟩
      have h2 := this.2
      rw [hc] at h2
      exact h2

theorem run_ok (P : Program) (kps : List (Nat × Nat)) (hany : P.follows .mixedOrders = true) (ht : typesOk P = true) (hk : kps.all (fun p => fnOk P p.1) = true) (lf n : Nat) :
    CallOk P P.globals.size (runF (envOf P [] kps) lf n) :=
  runF_ok (envOf_ok P [] kps hany ht) (kps_ok P [] kps hk) (fun f x h => by cases h) (fun call hc => draw_sound (envOf_ok P [] kps hany ht) hc) ⟨(fun f ts te h => by cases h), (fun f ts h => by cases h)⟩ lf n

end Ev

set_option linter.unusedVariables false
set_option linter.unusedSimpArgs false
namespace Ev
open Go

theorem run_calls (P : Program) (kps : List (Nat × Nat)) (hany : P.follows .mixedOrders = true) (ht : typesOk P = true) (hk : kps.all (fun p => fnOk P p.1) = true) {lf n f : Nat} {args : List W} {s s' : St} {v : V} {ρ : Mp} {w : World} {vals : Array Value}
    (h : HRel ρ s.h.get s.nx w.heap) (hg : GOk P.globals.size ρ) (hr : runF (envOf P [] kps) lf (n + 1) f args s = .ok v s') (hv : All2 (WRel ρ) args vals.toList) :
    Calls P f vals w (fun e w' => ∃ u, e = .returned u ∧ Done ρ s w v s' u w') := by
  replace hr : (@Option.rec Nat (fun _ => VS) .no (fun ks => @Option.rec Func (fun _ => VS) .no (fun fn => runB (envOf P [] kps) (runF (envOf P [] kps) lf n) lf ks fn args s) ((envOf P [] kps).fns.get f)) ((envOf P [] kps).kps.get f)) = .ok v s' := hr
  have hE := envOf_ok P [] kps hany ht
  have hc := run_ok P kps hany ht hk lf n
  cases hks : (envOf P [] kps).kps.get f with
  | none => rw [hks] at hr; cases hr
  | some ks =>
    rw [hks] at hr
    simp only [] at hr
    cases hfn : (envOf P [] kps).fns.get f with
    | none => rw [hfn] at hr; cases hr
    | some fn =>
      rw [hfn] at hr
      exact (runB_ok hE (kps_ok P [] kps hk) hc (draw_sound hE hc) ⟨(fun f ts te h => by cases h), (fun f ts h => by cases h)⟩ hks hfn hr h hg hv).2

def rho0 (ng : Nat) : Mp := ⟨fun g => if g < ng then some ⟨g, 0, 0, 0⟩ else none, fun _ _ => none⟩
theorem rho0_at (ng g : Nat) : rho0 ng g = if g < ng then some ⟨g, 0, 0, 0⟩ else none := rfl
theorem hrel0 (ng : Nat) (H : Array Obj) : HRel (rho0 ng) (St.mk .nil ng).h.get ng H where
  lies _ _ _ h := by cases h
  away b x p h := by cases h
  dom b p h := by rw [rho0_at] at h; split at h <;> first | assumption | cases h
  blk b x h _ := by cases h
  apart b x b' x' p p' h := by cases h
theorem gok0 (ng : Nat) : GOk ng (rho0 ng) := fun g h => ⟨⟨g, 0, 0, 0⟩, by rw [rho0_at, if_pos h], rfl, rfl⟩

theorem kept0 {ng : Nat} {w w' : World} {v : V} {s' : St} {u : Value} (h : Done (rho0 ng) ⟨.nil, ng⟩ w v s' u w') (may : MemPlace → Prop) : w.keptBut w' may ∧ w.heap.size ≤ w'.heap.size := by
  obtain ⟨ρ', ⟨hp, hs⟩, _⟩ := h
  refine ⟨⟨hs.1, hs.2.1, fun i hi => ?_⟩, hp.sz⟩
  have := hp.frame i hi (fun b x p hb => by cases hb)
  rw [this]
  cases w.heap[i]? with
  | none => rfl
  | some o => cases o <;> first | rfl | exact ⟨rfl, rfl, rfl, fun _ _ => rfl⟩ | exact .inr ⟨rfl, rfl⟩

def isTrue (r : VS) : Bool := match r with
  | .ok (.w (.c (.bool b))) _ => b
  | _ => false
theorem isTrue_some {r : VS} (h : isTrue r = true) : ∃ s', r = .ok (.w (.c (.bool true))) s' := by
  unfold isTrue at h
  split at h
  · subst h; exact ⟨_, rfl⟩
  · cases h

theorem law_true (P : Program) (kps : List (Nat × Nat)) (hany : P.follows .mixedOrders = true) (ht : typesOk P = true) (hk : kps.all (fun p => fnOk P p.1) = true) {lf n f : Nat} {args : List W} {vals : Array Value}
    (hr : isTrue (runF (envOf P [] kps) lf (n + 1) f args ⟨.nil, P.globals.size⟩) = true) (hv : ∀ ρ, All2 (WRel ρ) args vals.toList) (w : World) :
    Calls P f vals w (fun e w' => e = .returned (.bool true) ∧ w.keptBut w' (fun _ => False) ∧ w.heap.size ≤ w'.heap.size) := by
  obtain ⟨s', hs⟩ := isTrue_some hr
  refine Calls.mono (run_calls P kps hany ht hk (hrel0 _ w.heap) (gok0 _) hs (hv _)) ?_
  rintro e w' ⟨u, rfl, hd⟩
  have hk := kept0 hd (fun _ => False)
  obtain ⟨ρ', _, hu⟩ := hd
  have : u = .bool true := hu
  subst this
  exact ⟨rfl, hk.1, hk.2⟩

theorem below0 {ng : Nat} {w w' : World} {v : V} {s' : St} {u : Value} (h : Done (rho0 ng) ⟨.nil, ng⟩ w v s' u w') : Go.RowKit.Below w.heap.size w w' := by
  obtain ⟨ρ', ⟨hp, hs⟩, _⟩ := h
  exact ⟨hs.1, hs.2.2, hs.2.1, hp.sz, fun i hi => hp.frame i hi (fun b x p hb => by cases hb)⟩

theorem const_true (P : Program) (kps : List (Nat × Nat)) (hany : P.follows .mixedOrders = true) (ht : typesOk P = true) (hk : kps.all (fun p => fnOk P p.1) = true) {lf n f : Nat}
    (hr : isTrue (runF (envOf P [] kps) lf (n + 1) f [] ⟨.nil, P.globals.size⟩) = true) (w : World) :
    Calls P f #[] w (fun e w' => e = .returned (.bool true) ∧ Go.RowKit.Below w.heap.size w w') := by
  obtain ⟨s', hs⟩ := isTrue_some hr
  refine Calls.mono (run_calls P kps hany ht hk (hrel0 _ w.heap) (gok0 _) hs .nil) ?_
  rintro e w' ⟨u, rfl, hd⟩
  have hb := below0 hd
  obtain ⟨ρ', _, hu⟩ := hd
  have : u = .bool true := hu
  subst this
  exact ⟨rfl, hb⟩
end Ev
