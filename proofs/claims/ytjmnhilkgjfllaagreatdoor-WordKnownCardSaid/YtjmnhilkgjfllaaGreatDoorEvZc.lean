import Derived.Test.YtjmnhilkgjfllaaGreatDoorEvZt
set_option linter.unusedVariables false
set_option linter.unusedSimpArgs false
namespace Ev
open Go

theorem maskOf_keep (M : List Nat) (j i : Nat) : ∀ (l : List Edge) (acc : Nat), acc.testBit i = true → (maskOf M j l acc).testBit i = true := by
  intro l
  induction l with
  | nil => intro acc h; exact h
  | cons e l ih =>
    intro acc h
    simp only [maskOf]
    cases Region.binds .any e with
    | false => exact ih acc h
    | true =>
      refine ih _ ?_
      rw [testBit_lor, testBit_lor, h]; rfl
theorem maskOf_mem (M : List Nat) (j : Nat) : ∀ (l : List Edge) (acc : Nat) (e : Edge), e ∈ l → Region.binds .any e = true → (maskOf M j l acc).testBit e.on = true := by
  intro l
  induction l with
  | nil => intro acc e h; simp at h
  | cons x l ih =>
    intro acc e h hb
    simp only [maskOf]
    rcases List.mem_cons.1 h with rfl | h
    · rw [hb]
      refine maskOf_keep M j _ l _ ?_
      rw [testBit_lor, testBit_lor, testBit_one]; simp
    · cases Region.binds .any x with
      | false => exact ih acc e h hb
      | true => exact ih _ e h hb
theorem masks_mem (ops : List Oper) {j : Nat} {o : Oper} {m : Nat} (ho : ops[j]? = some o) (hm : (masks ops)[j]? = some m) {e : Edge} (he : e ∈ o.after) (hb : Region.binds .any e = true) : m.testBit e.on = true := by
  obtain ⟨r, h1, h2, h3⟩ := masksL_spec ops 0 []
  have hmm : masks ops = r := by unfold masks; rw [h1]; simp
  rw [hmm, h3 j o ho] at hm
  cases hm
  exact maskOf_mem _ _ _ _ e (by simpa using he) hb

theorem count_set {n j : Nat} {S : Nat → Bool} (hj : j < n) (hs : S j = false) : (List.range n).countP (fun i => !put1 S j i) < (List.range n).countP (fun i => !S i) := by
  induction n with
  | zero => omega
  | succ n ih =>
    rw [List.range_succ, List.countP_append, List.countP_append]
    have mono : ∀ k, (List.range k).countP (fun i => !put1 S j i) ≤ (List.range k).countP (fun i => !S i) := fun k => by
      apply List.countP_mono_left
      intro i _ hi
      simp only [Bool.not_eq_true'] at hi ⊢
      cases h : S i with
      | false => rfl
      | true => rw [put1_of h] at hi; cases hi
    by_cases e : j = n
    · subst e
      have := mono j
      simp only [List.countP_singleton, put1_self, hs]
      simp
      omega
    · have h1 := ih (by omega)
      simp only [List.countP_singleton, put1_ne (show n ≠ j by omega)]
      omega

section
variable {P : Program} {w : World} {E : Env} {call : CallF} {ks nt ng : Nat} {ops : List Oper} {base n : Nat} {tr : Nat → Rg} {vl : Nat → V} {ρ0 : Mp} {s0 : St} {H0 : Array Obj} {w0 : World} {act act0 : Act} {q : Nat} {ρ : Mp} {S : Nat → Bool}
variable {ta : Nat → A} {up : Nat → Option (Nat × Blk)}

/-- the tail's trace -/
structure TT (E : Env) (ks : Nat) (ops : List Oper) (n : Nat) (tr : Nat → Rg) (ta : Nat → A) (vl : Nat → V) (up : Nat → Option (Nat × Blk)) : Prop where
  a0 : ta n = (tr n).a
  tk : ∀ j o, n ≤ j → ops[j]? = some o → TK E ks (tr n).s.h.get o (ta j) (ta (j + 1)) (vl j) (up j)
  lo : ∀ i, i < n → up i = none
  ap : ∀ i i' b y b' y', i < i' → up i = some (b, y) → up i' = some (b', y') → b ≠ b'
  cov : ∀ j o m, n ≤ j → ops[j]? = some o → (masks ops)[j]? = some m → ∀ i, i < n → m.testBit i = true

theorem TT.temps (ht : Tr E call ks ops base n tr vl) (htt : TT E ks ops n tr ta vl up) : ∀ j, n ≤ j → j ≤ ops.length → ∀ t, (ta j).get t = lastV ops (tr 0).a vl (fun _ => true) j t := by
  intro j
  induction j with
  | zero =>
    intro hj _ t
    have : n = 0 := by omega
    subst this
    rw [htt.a0]; exact ht.temps 0 (Nat.le_refl _) t
  | succ j ih =>
    intro hj hl t
    by_cases e : n = j + 1
    · have := ht.temps n (Nat.le_refl _) t
      rw [← htt.a0] at this
      rw [← e]; exact this
    · have h1 : ops[j]? = some (ops[j]'(by omega)) := List.getElem?_eq_getElem (by omega)
      rw [(htt.tk j _ (by omega) h1).ha']
      simp only [lastV, dstAt, h1, Option.bind_some]
      cases hd : (ops[j]'(by omega)).dst with
      | none => rw [if_neg (by simp)]; exact ih (by omega) (by omega) t
      | some d =>
        show (A.put d (vl j) (tbit ks d) (ta j)).get t = _
        rw [A.get_put]
        by_cases e : d = t
        · subst e; rw [if_pos rfl, if_pos ⟨trivial, rfl⟩]
        · rw [if_neg e, if_neg (by simp [e])]; exact ih (by omega) (by omega) t

structure TInv (ops : List Oper) (n : Nat) (tr : Nat → Rg) (vl : Nat → V) (up : Nat → Option (Nat × Blk)) (nt : Nat) (ρ0 : Mp) (s0 : St) (H0 : Array Obj) (w0 : World) (act0 : Act) (S : Nat → Bool) (act : Act) (w : World) (ρ : Mp) : Prop where
  cov : ∀ i, i < n → S i = true
  post : ∃ s : St, Post ρ0 s0 H0 ρ s w.heap ∧ s.nx = (tr n).s.nx ∧ ∀ x, s.h.get x = tGet (tr n).s.h.get up S ops.length x
  temps : ∀ t, VRel ρ (lastV ops (tr 0).a vl S ops.length t) (act.tmps.getD t undef)
  sz : nt ≤ act.tmps.size
  d : act.defers = act0.defers
  sm : Same w0 w

theorem lastV_stop {a0 : A} {t : Nat} : ∀ k, n ≤ k → (∀ i, n ≤ i → S i = false) → lastV ops a0 vl S k t = lastV ops a0 vl S n t := by
  intro k
  induction k with
  | zero => intro h _; have : n = 0 := by omega
            subst this; rfl
  | succ k ih =>
    intro h hs
    by_cases e : n = k + 1
    · subst e; rfl
    · simp only [lastV]
      rw [if_neg (by rw [hs k (by omega)]; simp)]
      exact ih (by omega) hs

theorem DInv.toTail (ht : Tr E call ks ops base n tr vl) (htt : TT E ks ops n tr ta vl up) (h : DInv E ops base n tr vl nt ρ0 s0 H0 w0 act0 S act w q ρ) (hc : ∀ i, i < n → S i = true) (hz : ∀ i, n ≤ i → S i = false) :
    TInv ops n tr vl up nt ρ0 s0 H0 w0 act0 S act w ρ := by
  have hno : ∀ i, q ≤ i → i < n → ¬ IsA E ops n tr i := fun i a b c => by have := h.aS i c (hc i b); omega
  have hadv := h.advance ht h.qn (Nat.le_refl _) hno (fun i b _ a _ => hc i a)
  refine ⟨hc, ⟨(tr n).s, hadv, rfl, fun x => ?_⟩, fun t => ?_, h.sz, h.d, h.sm⟩
  · rw [tGet_not]
    intro i y _ hs hu
    rcases Nat.lt_or_ge i n with g | g
    · rw [htt.lo i g] at hu; cases hu
    · rw [hz i g] at hs; cases hs
  · rw [lastV_stop ops.length ht.nl hz]
    exact h.temps t

theorem TInv.step (hE : EnvOk E P) (hcall : CallOk P ng call) (ht : Tr E call ks ops base n tr vl) (htt : TT E ks ops n tr ta vl up) (h : TInv ops n tr vl up nt ρ0 s0 H0 w0 act0 S act w ρ)
    (h0 : HRel ρ0 s0.h.get s0.nx H0) (hg0 : GOk ng ρ0) (hops : ∀ o ∈ ops, operOk nt ng o = true)
    {j : Nat} {o : Oper} {m : Nat} (hnj : n ≤ j) (ho : ops[j]? = some o) (hm : (masks ops)[j]? = some m) (hs : S j = false)
    (hin : ∀ i, m.testBit i = true → S i = true) (hcl : ∀ i mi, S i = true → (masks ops)[i]? = some mi → ∀ k, mi.testBit k = true → S k = true)
    {K : Act → World → Prop} {Q : Exit → Act → World → Prop} (hK : ∀ act' w' ρ', TInv ops n tr vl up nt ρ0 s0 H0 w0 act0 (put1 S j) act' w' ρ' → K act' w') : wpOp P ops.toArray Q j K act w := by
  have hjl : j < ops.length := (List.getElem?_eq_some_iff.1 ho).1
  have hoper := hops o (List.mem_of_getElem? ho)
  obtain ⟨s, hp, hnx, hh⟩ := h.post
  have hg : GOk ng ρ := fun g hn => by
    obtain ⟨p, h1, h2⟩ := hg0 g hn
    exact ⟨p, by rw [hp.ext g (h0.dom g p h1)]; exact h1, h2⟩
  have early : ∀ t, Looks ops o t → ∀ i, i < j → dstAt ops i = some t → S i = true := by
    intro t hl i hi hd
    have hx : ops[i]? = some ops[i] := List.getElem?_eq_getElem (by omega)
    rcases (opsOk_spec ht.ok ho hm).2 i _ hx hi with g | g
    · exact hin i g
    · have hd' : (ops[i]).dst = some t := by unfold dstAt at hd; rw [hx] at hd; exact hd
      exact absurd hl ((apart_looks g).1 t hd').1
  have late : ∀ t, (Looks ops o t ∨ o.dst = some t) → ∀ i, j < i → i < ops.length → dstAt ops i = some t → S i = false := by
    intro t hl i hi hin' hd
    cases hsi : S i with
    | false => rfl
    | true =>
      exfalso
      have k1 : ops[i]? = some ops[i] := List.getElem?_eq_getElem (by omega)
      have k2 : (masks ops)[i]? = some ((masks ops)[i]'(by rw [(masks_spec ops).1]; omega)) := List.getElem?_eq_getElem (by rw [(masks_spec ops).1]; omega)
      have hd' : (ops[i]).dst = some t := by unfold dstAt at hd; rw [k1] at hd; exact hd
      rcases (opsOk_spec ht.ok k1 k2).2 j o ho hi with g | g
      · have := hcl i _ hsi k2 j g
        rw [hs] at this; cases this
      · rcases hl with hl | hl
        · exact (apart_looks g).2 t hd' hl
        · exact ((apart_looks g).1 t hl).2 hd'
  have hl : ∀ t, Looks ops o t → VRel ρ ((ta j).get t) (act.tmps.getD t undef) := by
    intro t hlk
    rw [htt.temps ht j hnj (by omega) t, ← lastV_eq (S := S) (early t hlk) ops.length (by omega) (fun i h1 h2 h3 => by
      by_cases e : i = j
      · subst e; exact hs
      · exact late t (.inl hlk) i (by omega) h2 h3)]
    exact h.temps t
  have hopr : ∀ x ∈ o.op.operands, OpRel ρ (ta j) act.eval x := by
    intro x hx
    have h2 := hoper
    unfold operOk at h2
    rw [Bool.and_eq_true, List.all_eq_true] at h2
    refine opRel' (fun t e => hl t (.inl ?_)) hg (h2.2 x (by simpa using hx))
    subst e; simpa using hx
  have htemps : ∀ (ρ' : Mp) (u : Value), ρ.le ρ' → VRel ρ' (vl j) u → ∀ t, VRel ρ' (lastV ops (tr 0).a vl (put1 S j) ops.length t) ((act.put o.dst u).tmps.getD t undef) := by
    intro ρ' u hle hv t
    by_cases hd : o.dst = some t
    · have hda : dstAt ops j = some t := by unfold dstAt; rw [ho]; exact hd
      rw [lastV_at hda (put1_self S j) ops.length hjl (fun i h1 h2 h3 => by rw [put1_ne (by omega)]; exact late t (.inr hd) i h1 h2 h3)]
      have h2 := hoper
      unfold operOk at h2
      rw [Bool.and_eq_true, hd] at h2
      have htn : t + 1 ≤ nt := Nat.le_of_ble_eq_true h2.1
      have := h.sz
      rw [hd]
      show VRel ρ' (vl j) ((act.tmps.setIfInBounds t u).getD t undef)
      have hts : t < act.tmps.size := by omega
      simp [hts]; exact hv
    · rw [lastV_same (S := S) ops.length (fun i h1 h2 => by
        rw [put1_ne]
        intro e; subst e
        unfold dstAt at h2; rw [ho] at h2; exact hd h2)]
      have : (act.put o.dst u).tmps.getD t undef = act.tmps.getD t undef := by
        cases hdd : o.dst with
        | none => rfl
        | some d =>
          have hne : d ≠ t := fun e => hd (by rw [hdd, e])
          show (act.tmps.setIfInBounds d u).getD t undef = _
          simp [Array.getD_eq_getD_getElem?, Array.getElem?_setIfInBounds_ne hne]
      rw [this]
      exact (h.temps t).mono hle
  unfold wpOp
  rw [List.getElem?_toArray, ho]
  simp only []
  have htk := htt.tk j o hnj ho
  have hguard : o.guard = none := by cases htk <;> assumption
  have hwant : Region.wanted o (yielded ops.toArray act.tmps) = true := by unfold Region.wanted; rw [hguard]
  rw [hwant]
  simp only [if_true]
  left
  cases htk with
  | pure _ rd f hk hf ha hu =>
    have hsee : Sees ρ (fun _ => none) w.heap := fun x b p hx => by cases hx
    obtain ⟨u, r1, r2⟩ := r_sound hE hsee o hopr hk hf
    refine upon_value r1 (hK _ _ ρ ⟨fun i hi => put1_of (h.cov i hi), ⟨s, hp, hnx, fun x => ?_⟩, htemps ρ u (Mp.le_refl ρ) r2, by rw [put_size]; exact h.sz, by rw [put_defers]; exact h.d, h.sm⟩)
    rw [tGet_skip hu]; exact hh x
  | store _ f hk b r y hu hv ha hr hst =>
    have hsb : s.h.get b = (tr n).s.h.get b := by
      rw [hh b, tGet_not]
      intro i y' hi hsi hub
      have hij : i ≠ j := fun e => by subst e; rw [hs] at hsi; cases hsi
      rcases Nat.lt_or_ge i j with g | g
      · exact htt.ap i j b y' b y g hub hu rfl
      · exact htt.ap j i b y b y' (by omega) hu hub rfl
    have hf := hst call s (by rw [rowOf_congr hsb]; exact hr)
    refine a_sound hE hcall hp.rel hg o hopr hk hf fun u w' hd => ?_
    obtain ⟨ρ', ⟨hp', hsm⟩, hv'⟩ := hd
    have hle := hp'.le hp.rel
    refine hK _ _ ρ' ⟨fun i hi => put1_of (h.cov i hi), ⟨_, hp.trans hp', hnx, fun x => ?_⟩, htemps ρ' u hle (by rw [hv]; exact hv'), by rw [put_size]; exact h.sz, by rw [put_defers]; exact h.d, h.sm.trans hsm⟩
    show (s.h.set b y).get x = _
    rw [T.get_set, tGet_put htt.ap hu hjl, hh x]

/-- any order: an invariant of what is done -/
theorem any_inv (I : (Nat → Bool) → Act → World → Prop) (hok : opsOk ops = true) {Q : Exit → Act → World → Prop}
    (hstep : ∀ S act w j o m, ops[j]? = some o → (masks ops)[j]? = some m → S j = false → (∀ i, m.testBit i = true → S i = true) →
      (∀ i mi, S i = true → (masks ops)[i]? = some mi → ∀ k, mi.testBit k = true → S k = true) → I S act w → ∀ K : Act → World → Prop, (∀ act' w', I (put1 S j) act' w' → K act' w') → wpOp P ops.toArray Q j K act w)
    (hQ : ∀ act w S, (∀ i, i < ops.length → S i = true) → I S act w → Q .normal act w) :
    ∀ (fuel : Nat) (listed : Array Bool) (act : Act) (w : World), listed.size = ops.length → (List.range ops.length).countP (fun i => !listed.getD i false) ≤ fuel →
      (∀ i mi, listed.getD i false = true → (masks ops)[i]? = some mi → ∀ k, mi.testBit k = true → listed.getD k false = true) →
      I (fun i => listed.getD i false) act w → wpAny P .any ops.toArray Q fuel listed act w := by
  have hmask : ∀ j, j < ops.length → ∃ m, (masks ops)[j]? = some m := fun j hj => ⟨_, List.getElem?_eq_getElem (by rw [(masks_spec ops).1]; exact hj)⟩
  have full : ∀ (listed : Array Bool), listed.size = ops.length → Region.ready .any ops.toArray listed = [] → ∀ i, i < ops.length → listed.getD i false = true := by
    intro listed hsz hr i
    induction i using Nat.strongRecOn with
    | _ i ih =>
      intro hi
      cases hs : listed.getD i false with
      | true => rfl
      | false =>
        exfalso
        have g1 : ops[i]? = some ops[i] := List.getElem?_eq_getElem hi
        obtain ⟨m, g2⟩ := hmask i hi
        have : i ∈ Region.ready .any ops.toArray listed := by
          rw [mem_ready]
          refine ⟨?_, _, by rw [List.getElem?_toArray]; exact g1, fun e he hb => ?_⟩
          · rw [Array.getD_eq_getD_getElem?, Array.getElem?_eq_getElem (by omega)] at hs ⊢
            exact hs
          · have hbit := masks_mem ops g1 g2 he hb
            have hlt := (opsOk_spec hok g1 g2).1 e.on hbit
            exact ih e.on hlt (by omega)
        rw [hr] at this; cases this
  intro fuel
  induction fuel with
  | zero =>
    intro listed act w hsz hc hcl hi
    have hall : ∀ i, i < ops.length → listed.getD i false = true := by
      intro i hi'
      have : (List.range ops.length).countP (fun i => !listed.getD i false) = 0 := by omega
      rw [List.countP_eq_zero] at this
      have := this i (List.mem_range.2 hi')
      simpa using this
    refine ⟨?_, hQ act w _ hall hi⟩
    cases hr : Region.ready .any ops.toArray listed with
    | nil => rfl
    | cons j l =>
      exfalso
      have hj : j ∈ Region.ready .any ops.toArray listed := by rw [hr]; simp
      rw [mem_ready] at hj
      obtain ⟨h1, o, h2, _⟩ := hj
      rw [List.getElem?_toArray] at h2
      have hjn := (List.getElem?_eq_some_iff.1 h2).1
      have := hall j hjn
      rw [Array.getD_eq_getD_getElem?, Array.getElem?_eq_getElem (by omega)] at h1 this
      rw [Option.getD_some] at h1 this
      rw [h1] at this; cases this
  | succ fuel ih =>
    intro listed act w hsz hc hcl hi
    refine ⟨fun hr => hQ act w _ (full listed hsz hr) hi, fun j hj => ?_⟩
    rw [mem_ready] at hj
    obtain ⟨h1, o, h2, h3⟩ := hj
    rw [List.getElem?_toArray] at h2
    have hjn := (List.getElem?_eq_some_iff.1 h2).1
    obtain ⟨m, g2⟩ := hmask j hjn
    have hs : listed.getD j false = false := by
      rw [Array.getD_eq_getD_getElem?, Array.getElem?_eq_getElem (by omega)] at h1 ⊢
      exact h1
    have hin : ∀ i, m.testBit i = true → listed.getD i false = true := by
      intro i hb
      obtain ⟨e, he, hbd, hor⟩ := (masks_spec ops).2 j o m h2 g2 i hb
      have hon := h3 e (by simpa using he) hbd
      rcases hor with rfl | ⟨_, m', k1, k2⟩
      · exact hon
      · exact hcl e.on m' hon k1 i k2
    have hput : (fun i => (listed.setIfInBounds j true).getD i false) = put1 (fun i => listed.getD i false) j := by
      funext i
      show (listed.setIfInBounds j true).getD i false = (decide (i = j) || listed.getD i false)
      rw [Array.getD_eq_getD_getElem?, Array.getD_eq_getD_getElem?, Array.getElem?_setIfInBounds]
      by_cases e : i = j
      · subst e; simp [show i < listed.size by omega]
      · rw [if_neg (Ne.symm e)]; simp [e]
    refine hstep _ act w j o m h2 g2 hs hin hcl hi _ fun act' w' hd => ?_
    refine ih _ act' w' (by simpa using hsz) ?_ ?_ (by rw [hput]; exact hd)
    · have := count_set (S := fun i => listed.getD i false) hjn hs
      have e : (fun i => !(listed.setIfInBounds j true).getD i false) = fun i => !put1 (fun i => listed.getD i false) j i := by
        funext i; rw [← congrFun hput i]
      rw [e]; omega
    · intro i mi hsi hmi k hb
      have hsi' : put1 (fun i => listed.getD i false) j i = true := by rw [← congrFun hput i]; exact hsi
      have : put1 (fun i => listed.getD i false) j k = true := by
        by_cases e : i = j
        · subst e
          rw [g2] at hmi; cases hmi
          exact put1_of (hin k hb)
        · rw [put1_ne e] at hsi'
          exact put1_of (hcl i mi hsi' hmi k hb)
      rw [← congrFun hput k] at this; exact this

/-- the two parts of a region: any order of both -/
theorem two_sound (hE : EnvOk E P) (hcall : CallOk P ng call) {a : A} {hh : T Blk} {l1 l2 : List Oper} {g' : Rg} {a' : A} {s' : St} {id : Nat} (hok : opsOk ops = true) (hl1 : ∀ (i : Nat) (o : Oper), l1[i]? = some o → ops[i]? = some o)
    (hl1' : ∀ (i : Nat) (o : Oper), i < l1.length → ops[i]? = some o → l1[i]? = some o) (hl2 : ∀ (i : Nat) (o : Oper), ops[l1.length + i]? = some o → l2[i]? = some o) (hlen : ops.length = l1.length + l2.length)
    (hcov : ∀ (j : Nat) (o : Oper) (m : Nat), l1.length ≤ j → ops[j]? = some o → (masks ops)[j]? = some m → ∀ i, i < l1.length → m.testBit i = true)
    (hd : drawOps E call ks ops base l1 (masks ops) 0 ⟨a, ⟨hh, Nat.add base ops.length⟩, [], [], 0⟩ = some g') (htl : tailOps E ks l2 g'.a g'.s [] = .ok a' s')
    (hops : ∀ o ∈ ops, operOk nt ng o = true) (hi : Inv ks nt ng ρ a act ⟨hh, base⟩ w)
    {Q : Exit → Act → World → Prop} (hQ : ∀ ρ' act' w', Goes ks nt ng ρ ⟨hh, base⟩ w act ρ' a' s' act' w' → Q .normal act' w') : (Code.region id ops.toArray true).wp P Q act w := by
  obtain ⟨tr, vl1, h1, h2, h3⟩ := drawOps_tr l1 (masks ops) 0 _ g' hd
  rw [Nat.zero_add] at h2
  obtain ⟨ta, vl2, up, t1, t2, t3, t4, t5, t6, t7, t8⟩ := tailOps_tr (h0 := g'.s.h.get) l2 l1.length g'.a g'.s [] a' s' htl (fun _ _ => rfl)
  obtain ⟨vl, hvl⟩ : ∃ vl : Nat → V, vl = fun i => if i < l1.length then vl1 i else vl2 i := ⟨_, rfl⟩
  have ht : Tr E call ks ops base l1.length tr vl := ⟨hok, by omega, fun j o hj ho => by
    obtain ⟨m, q1, q2⟩ := h3 j o (hl1' j o hj ho)
    rw [Nat.zero_add] at q2
    refine ⟨m, q1, ?_⟩
    rw [hvl]
    show Kd E call ks ops o j m base (tr j) (tr (j + 1)) (if j < l1.length then vl1 j else vl2 j)
    rw [if_pos hj]; exact q2, by rw [h1], by rw [h1]⟩
  have htt : TT E ks ops l1.length tr ta vl up := ⟨by rw [t1, h2], fun j o hj ho => by
    have := t4 (j - l1.length) o (hl2 _ o (by rw [show l1.length + (j - l1.length) = j by omega]; exact ho))
    rw [show l1.length + (j - l1.length) = j by omega] at this
    rw [h2, hvl]
    show TK E ks g'.s.h.get o (ta j) (ta (j + 1)) (if j < l1.length then vl1 j else vl2 j) (up j)
    rw [if_neg (by omega)]; exact this, t5, t7, hcov⟩
  refine wp_region_any hE.any ?_
  have hrel : HRel ρ (tr 0).s.h.get (tr 0).s.nx w.heap := by
    rw [h1]
    exact hi.h.congr (fun _ => rfl) (Nat.le_add_right _ _)
  have hfresh : ∀ i, ρ (base + i) = none := fun i => hi.h.fresh (by show base ≤ base + i; omega)
  have h0' : HRel ρ (⟨hh, base⟩ : St).h.get (⟨hh, base⟩ : St).nx w.heap := hi.h
  let I : (Nat → Bool) → Act → World → Prop := fun S act' w' =>
    ((∀ i, l1.length ≤ i → S i = false) ∧ ∃ q ρ', DInv E ops base l1.length tr vl nt ρ ⟨hh, base⟩ w.heap w act S act' w' q ρ') ∨ ∃ ρ', TInv ops l1.length tr vl up nt ρ ⟨hh, base⟩ w.heap w act S act' w' ρ'
  refine any_inv (ops := ops) I hok (Q := Q) ?_ ?_ _ _ act _ (by simp) ?_ ?_ ?_
  · intro S act1 w1 j o m ho hm hs hin hcl hI K hK
    rcases hI with ⟨hz, q, ρ', hD⟩ | ⟨ρ', hT⟩
    · by_cases hj : j < l1.length
      · obtain ⟨m', g1, g2⟩ := ht.kd j o hj ho
        rw [hm] at g1; cases g1
        refine hD.step hE hcall ht h0' hi.g rfl hops hj ho hm g2 hs hin hcl fun act' w' q' ρ'' hd' => hK _ _ (.inl ⟨fun i hi' => ?_, q', ρ'', hd'⟩)
        rw [put1_ne (by omega)]; exact hz i hi'
      · have hT := hD.toTail ht htt (fun i hi' => hin i (hcov j o m (by omega) ho hm i hi')) hz
        exact hT.step hE hcall ht htt h0' hi.g hops (by omega) ho hm hs hin hcl fun act' w' ρ'' hd' => hK _ _ (.inr ⟨ρ'', hd'⟩)
    · have hj : l1.length ≤ j := by
        rcases Nat.lt_or_ge j l1.length with g | g
        · have := hT.cov j g; rw [hs] at this; cases this
        · exact g
      exact hT.step hE hcall ht htt h0' hi.g hops hj ho hm hs hin hcl fun act' w' ρ'' hd' => hK _ _ (.inr ⟨ρ'', hd'⟩)
  · intro act1 w1 S hall hI
    have hT : ∃ ρ', TInv ops l1.length tr vl up nt ρ ⟨hh, base⟩ w.heap w act S act1 w1 ρ' := by
      rcases hI with ⟨hz, q, ρ', hD⟩ | hT
      · exact ⟨ρ', hD.toTail ht htt (fun i hi' => hall i (by omega)) hz⟩
      · exact hT
    obtain ⟨ρ', hT⟩ := hT
    obtain ⟨s, hp, hnx, hg⟩ := hT.post
    have hg' : ∀ x, s'.h.get x = s.h.get x := by
      intro x
      rw [hg x, h2]
      rcases t8 x with ⟨i, y, hi', hx, hy⟩ | ⟨hno, hy⟩
      · rw [hy, tGet_at t7 hx (hall i (by omega)) ops.length (by omega)]
      · rw [hy, tGet_not]
        intro i y _ _; exact hno i y
    have hnx' : s'.nx = s.nx := by rw [t3, hnx, h2]
    have hpost : Post ρ ⟨hh, base⟩ w.heap ρ' s' w1.heap := by
      refine ⟨hp.ext, by rw [hnx']; exact hp.nx, by rw [hnx']; exact hp.rel.congr hg' (Nat.le_refl _), hp.sz, hp.frame, ?_, ?_⟩
      · intro b x p hx; rw [hg' b] at hx; exact hp.wrs b x p hx
      · intro b x p hx; rw [hg' b] at hx; exact hp.alv b x p hx
    have ha' : ta ops.length = a' := by rw [hlen]; exact t2
    refine hQ ρ' act1 w1 ⟨hpost, ⟨fun t => ?_, ?_, hpost.rel, hi.g.post hi.h hpost, hT.sz⟩, hT.d, hT.sm⟩
    · have h4 := hT.temps t
      rw [lastV_eq (S := S) (j := ops.length) (fun i hi _ => hall i hi) ops.length (Nat.le_refl _) (fun i h1 h2 _ => by omega), ← htt.temps ht ops.length (by omega) (Nat.le_refl _) t, ha'] at h4
      exact h4
    · have w1' : ∀ j, j ≤ l1.length → Wf ks (tr j).a := by
        intro j
        induction j with
        | zero => intro _; rw [h1]; exact hi.wf
        | succ j ih =>
          intro hj
          obtain ⟨o, m, _, _, k3⟩ := ht.get (j := j) (by omega)
          rw [k3.ha]
          exact (ih (by omega)).put _ _
      have w2' : ∀ j, l1.length ≤ j → j ≤ ops.length → Wf ks (ta j) := by
        intro j
        induction j with
        | zero => intro hj _; have e : l1.length = 0 := by omega
                  have := w1' 0 (by omega)
                  rw [← e, ← htt.a0, e] at this; exact this
        | succ j ih =>
          intro hj hj'
          by_cases e : l1.length = j + 1
          · have := w1' l1.length (Nat.le_refl _)
            rw [← htt.a0, e] at this; exact this
          · have hx : ops[j]? = some (ops[j]'(by omega)) := List.getElem?_eq_getElem (by omega)
            rw [(htt.tk j _ (by omega) hx).ha']
            exact (ih (by omega) (by omega)).put _ _
      have := w2' ops.length (by omega) (Nat.le_refl _)
      rw [ha'] at this
      exact this
  · refine Nat.le_trans List.countP_le_length ?_
    simp
  · intro i mi hs
    simp [Array.getD_eq_getD_getElem?, Array.getElem?_replicate] at hs
    split at hs <;> simp at hs
  · have hfalse : ∀ i, (Array.replicate ops.toArray.size false).getD i false = false := by
      intro i
      simp [Array.getD_eq_getD_getElem?, Array.getElem?_replicate]
      split <;> rfl
    refine .inl ⟨fun i _ => hfalse i, 0, ρ, ?_⟩
    refine ⟨Nat.zero_le _, .inl rfl, fun i _ hs => ?_, fun i hi' => by omega, ?_, ?_, fun i b _ _ hs => ?_, fun i i' b b' p p' _ _ _ _ hs => ?_, fun i b _ _ _ => hfresh i, fun t => ?_, hi.sz, rfl, ⟨rfl, rfl⟩⟩
    · rw [hfalse] at hs; cases hs
    · rw [h1]
      exact ⟨fun _ _ => rfl, Nat.le_add_right _ _, hi.h.congr (fun _ => rfl) (Nat.le_add_right _ _), Nat.le_refl _, fun _ _ _ => rfl, fun b x p a b' c _ => ⟨b, x, p, a, b', c, rfl⟩, fun b x p a b' c _ => ⟨b, x, p, a, b', c, rfl⟩⟩
    · rw [h1]; exact Nat.le_refl _
    · rw [hfalse] at hs; cases hs
    · rw [hfalse] at hs; cases hs
    · rw [lastV_eq (S := fun i => (Array.replicate ops.toArray.size false).getD i false) (j := 0) (fun i hi => by omega) l1.length (Nat.zero_le _) (fun i _ _ _ => hfalse i)]
      show VRel ρ ((tr 0).a.get t) _
      rw [h1]
      exact hi.t t

theorem tailChk_spec (t : Nat) : ∀ l : List Nat, tailChk t l = true → ∀ m ∈ l, ∀ i, i < t → m.testBit i = true := by
  intro l
  induction l with
  | nil => intro _ m h; simp at h
  | cons x l ih =>
    intro h m hm i hi
    simp only [tailChk] at h
    cases hb : Nat.beq (Nat.mod x (Nat.shiftLeft 1 t)) (Nat.sub (Nat.shiftLeft 1 t) 1) with
    | false => rw [hb] at h; cases h
    | true =>
      rw [hb] at h
      rcases List.mem_cons.1 hm with rfl | hm
      · have h1 : m % (1 <<< t) = 1 <<< t - 1 := Nat.eq_of_beq_eq_true hb
        rw [Nat.shiftLeft_eq, Nat.one_mul] at h1
        have h2 := congrArg (fun x => x.testBit i) h1
        simp only [Nat.testBit_mod_two_pow, Nat.testBit_two_pow_sub_one, hi, decide_true, Bool.true_and] at h2
        exact h2
      · exact ih h m hm i hi

theorem draw_sound (hE : EnvOk E P) (hcall : CallOk P ng call) : DrawOk P E ng call := by
  intro ks nt ops a s act w ρ id a' s' Q hops hi hr hQ
  unfold evDraw at hr
  cases hok : opsOk ops with
  | false => rw [hok] at hr; cases hr
  | true =>
    rw [hok] at hr
    simp only [] at hr
    obtain ⟨hh, base⟩ := s
    cases htl : tailAt ops ops (masks ops) 0 0 with
    | zero =>
      rw [htl] at hr
      simp only [evDraw0, lenA_zero] at hr
      cases hd : drawOps E call ks ops base ops (masks ops) 0 ⟨a, ⟨hh, Nat.add base ops.length⟩, [], [], 0⟩ with
      | none => rw [hd] at hr; cases hr
      | some g' =>
        rw [hd] at hr
        obtain ⟨ga, gs, g1, g2, g3⟩ := g'
        exact two_sound (l1 := ops) (l2 := []) hE hcall hok (fun _ _ h => h) (fun _ _ _ h => h) (fun i o h => by rw [List.getElem?_eq_none (by omega)] at h; cases h) (by simp)
          (fun j o m hj ho => by rw [List.getElem?_eq_none hj] at ho; cases ho) hd hr hops hi hQ
    | succ t0 =>
      rw [htl] at hr
      simp only [] at hr
      cases hck : tailChk (t0 + 1) ((masks ops).drop (t0 + 1)) with
      | false => rw [hck] at hr; cases hr
      | true =>
        rw [hck] at hr
        simp only [evDraw0, lenA_zero] at hr
        cases hd : drawOps E call ks ops base (ops.take (t0 + 1)) (masks ops) 0 ⟨a, ⟨hh, Nat.add base ops.length⟩, [], [], 0⟩ with
        | none => rw [hd] at hr; cases hr
        | some g' =>
          rw [hd] at hr
          obtain ⟨ga, gs, g1, g2, g3⟩ := g'
          have hlt : (ops.take (t0 + 1)).length = min (t0 + 1) ops.length := by simp
          refine two_sound (l1 := ops.take (t0 + 1)) (l2 := ops.drop (t0 + 1)) hE hcall hok ?_ ?_ ?_ ?_ ?_ hd hr hops hi hQ
          · intro i o h
            rw [List.getElem?_take] at h
            split at h
            · exact h
            · cases h
          · intro i o h1 h2
            rw [List.getElem?_take, if_pos (by omega)]; exact h2
          · intro i o h
            have := (List.getElem?_eq_some_iff.1 h).1
            rw [List.getElem?_drop, ← h]
            congr 1; omega
          · rw [hlt]; simp; omega
          · intro j o m hj ho hm i hi'
            have hjl := (List.getElem?_eq_some_iff.1 ho).1
            refine tailChk_spec (t0 + 1) _ hck m ?_ i (by omega)
            have : ((masks ops).drop (t0 + 1))[j - (t0 + 1)]? = some m := by
              rw [List.getElem?_drop, ← hm]; congr 1; omega
            exact List.mem_of_getElem? this

end
end Ev
