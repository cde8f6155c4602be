import Derived.Test.YtofngijkhghnmaaEvZb
namespace Ev
open Go

theorem maskOf_keep (M : List Nat) (j i : Nat) : ∀ (l : List Edge) (acc : Nat), acc.testBit i = true → (maskOf M j l acc).testBit i = true := by
  intro l
  induction l with
  | nil => intro acc h; exact h
  | cons e l ih =>
    intro acc h
    simp only [maskOf]
    cases Region.binds .any e with
    | false => exact ih acc h
    | true =>
      refine ih _ ?_
      rw [testBit_lor, testBit_lor, h]; rfl
theorem maskOf_mem (M : List Nat) (j : Nat) : ∀ (l : List Edge) (acc : Nat) (e : Edge), e ∈ l → Region.binds .any e = true → (maskOf M j l acc).testBit e.on = true := by
  intro l
  induction l with
  | nil => intro acc e h; simp at h
  | cons x l ih =>
    intro acc e h hb
    simp only [maskOf]
    rcases List.mem_cons.1 h with rfl | h
    · rw [hb]
      refine maskOf_keep M j _ l _ ?_
      rw [testBit_lor, testBit_lor, testBit_one]; simp
    · cases Region.binds .any x with
      | false => exact ih acc e h hb
      | true => exact ih _ e h hb
theorem masks_mem (ops : List Oper) {j : Nat} {o : Oper} {m : Nat} (ho : ops[j]? = some o) (hm : (masks ops)[j]? = some m) {e : Edge} (he : e ∈ o.after) (hb : Region.binds .any e = true) : m.testBit e.on = true := by
  obtain ⟨r, h1, h2, h3⟩ := masksL_spec ops 0 []
  have hmm : masks ops = r := by unfold masks; rw [h1]; simp
  rw [hmm, h3 j o ho] at hm
  cases hm
  exact maskOf_mem _ _ _ _ e (by simpa using he) hb

theorem count_set {n j : Nat} {S : Nat → Bool} (hj : j < n) (hs : S j = false) : (List.range n).countP (fun i => !put1 S j i) < (List.range n).countP (fun i => !S i) := by
  induction n with
  | zero => omega
  | succ n ih =>
    rw [List.range_succ, List.countP_append, List.countP_append]
    have mono : ∀ k, (List.range k).countP (fun i => !put1 S j i) ≤ (List.range k).countP (fun i => !S i) := fun k => by
      apply List.countP_mono_left
      intro i _ hi
      simp only [Bool.not_eq_true'] at hi ⊢
      cases h : S i with
      | false => rfl
      | true => rw [put1_of h] at hi; cases hi
    by_cases e : j = n
    · subst e
      have := mono j
      simp only [List.countP_singleton, put1_self, hs]
      simp
      omega
    · have h1 := ih (by omega)
      simp only [List.countP_singleton, put1_ne (show n ≠ j by omega)]
      omega

section
variable {P : Program} {w : World} {E : Env} {call : CallF} {ks nt ng : Nat} {ops : List Oper} {base : Nat} {tr : Nat → Rg} {vl : Nat → V} {ρ0 : Mp} {s0 : St} {H0 : Array Obj} {w0 : World} {act act0 : Act} {q : Nat} {ρ : Mp}

theorem draw_any (hE : EnvOk E P) (hcall : CallOk P ng call) (ht : Tr E call ks ops base tr vl) (h0 : HRel ρ0 s0.h.get s0.nx H0) (hg0 : GOk ng ρ0) (hb0 : s0.nx = base) (hops : ∀ o ∈ ops, operOk nt ng o = true)
    {Q : Exit → Act → World → Prop} (hQ : ∀ act w q ρ S, (∀ i, i < ops.length → S i = true) → DInv E ops base tr vl nt ρ0 s0 H0 w0 act0 S act w q ρ → Q .normal act w) :
    ∀ (fuel : Nat) (listed : Array Bool) (act : Act) (w : World) (q : Nat) (ρ : Mp), listed.size = ops.length → (List.range ops.length).countP (fun i => !listed.getD i false) ≤ fuel →
      (∀ i mi, listed.getD i false = true → (masks ops)[i]? = some mi → ∀ k, mi.testBit k = true → listed.getD k false = true) →
      DInv E ops base tr vl nt ρ0 s0 H0 w0 act0 (fun i => listed.getD i false) act w q ρ → wpAny P .any ops.toArray Q fuel listed act w := by
  have full : ∀ (listed : Array Bool), listed.size = ops.length → Region.ready .any ops.toArray listed = [] → ∀ i, i < ops.length → listed.getD i false = true := by
    intro listed hsz hr i
    induction i using Nat.strongRecOn with
    | _ i ih =>
      intro hi
      cases hs : listed.getD i false with
      | true => rfl
      | false =>
        exfalso
        obtain ⟨o, m, g1, g2, _⟩ := ht.get hi
        have : i ∈ Region.ready .any ops.toArray listed := by
          rw [mem_ready]
          refine ⟨?_, o, by rw [List.getElem?_toArray]; exact g1, fun e he hb => ?_⟩
          · rw [Array.getD_eq_getD_getElem?, Array.getElem?_eq_getElem (by omega)] at hs ⊢
            exact hs
          · have hbit := masks_mem ops g1 g2 he hb
            have hlt := (opsOk_spec ht.ok g1 g2).1 e.on hbit
            exact ih e.on hlt (by omega)
        rw [hr] at this; cases this
  intro fuel
  induction fuel with
  | zero =>
    intro listed act w q ρ hsz hc hcl hi
    have hall : ∀ i, i < ops.length → listed.getD i false = true := by
      intro i hi'
      have : (List.range ops.length).countP (fun i => !listed.getD i false) = 0 := by omega
      rw [List.countP_eq_zero] at this
      have := this i (List.mem_range.2 hi')
      simpa using this
    refine ⟨?_, hQ act w q ρ _ hall hi⟩
    cases hr : Region.ready .any ops.toArray listed with
    | nil => rfl
    | cons j l =>
      exfalso
      have hj : j ∈ Region.ready .any ops.toArray listed := by rw [hr]; simp
      rw [mem_ready] at hj
      obtain ⟨h1, o, h2, _⟩ := hj
      rw [List.getElem?_toArray] at h2
      have hjn := (List.getElem?_eq_some_iff.1 h2).1
      have := hall j hjn
      rw [Array.getD_eq_getD_getElem?, Array.getElem?_eq_getElem (by omega)] at h1 this
      rw [Option.getD_some] at h1 this
      rw [h1] at this; cases this
  | succ fuel ih =>
    intro listed act w q ρ hsz hc hcl hi
    refine ⟨fun hr => hQ act w q ρ _ (full listed hsz hr) hi, fun j hj => ?_⟩
    rw [mem_ready] at hj
    obtain ⟨h1, o, h2, h3⟩ := hj
    rw [List.getElem?_toArray] at h2
    have hjn := (List.getElem?_eq_some_iff.1 h2).1
    obtain ⟨o', m, g1, g2, g3⟩ := ht.get hjn
    rw [h2] at g1; cases g1
    have hs : listed.getD j false = false := by
      rw [Array.getD_eq_getD_getElem?, Array.getElem?_eq_getElem (by omega)] at h1 ⊢
      exact h1
    have hin : ∀ i, m.testBit i = true → listed.getD i false = true := by
      intro i hb
      obtain ⟨e, he, hbd, hor⟩ := (masks_spec ops).2 j o m h2 g2 i hb
      have hon := h3 e (by simpa using he) hbd
      rcases hor with rfl | ⟨_, m', k1, k2⟩
      · exact hon
      · exact hcl e.on m' hon k1 i k2
    have hput : (fun i => (listed.setIfInBounds j true).getD i false) = put1 (fun i => listed.getD i false) j := by
      funext i
      show (listed.setIfInBounds j true).getD i false = (decide (i = j) || listed.getD i false)
      rw [Array.getD_eq_getD_getElem?, Array.getD_eq_getD_getElem?, Array.getElem?_setIfInBounds]
      by_cases e : i = j
      · subst e; simp [show i < listed.size by omega]
      · rw [if_neg (Ne.symm e)]; simp [e]
    refine hi.step hE hcall ht h0 hg0 hb0 hops h2 g2 g3 hs hin hcl fun act' w' q' ρ' hd => ?_
    refine ih _ act' w' q' ρ' (by simpa using hsz) ?_ ?_ (by rw [hput]; exact hd)
    · have := count_set (S := fun i => listed.getD i false) hjn hs
      have e : (fun i => !(listed.setIfInBounds j true).getD i false) = fun i => !put1 (fun i => listed.getD i false) j i := by
        funext i; rw [← congrFun hput i]
      rw [e]; omega
    · intro i mi hsi hmi k hb
      have hsi' : put1 (fun i => listed.getD i false) j i = true := by rw [← congrFun hput i]; exact hsi
      have : put1 (fun i => listed.getD i false) j k = true := by
        by_cases e : i = j
        · subst e
          rw [g2] at hmi; cases hmi
          exact put1_of (hin k hb)
        · rw [put1_ne e] at hsi'
          exact put1_of (hcl i mi hsi' hmi k hb)
      rw [← congrFun hput k] at this; exact this


theorem draw_sound (hE : EnvOk E P) (hcall : CallOk P ng call) : DrawOk P E ng call := by
  intro ks nt ops a s act w ρ id a' s' Q hops hi hr hQ
  unfold evDraw at hr
  cases hok : opsOk ops with
  | false => rw [hok] at hr; cases hr
  | true =>
    rw [hok] at hr
    simp only [] at hr
    obtain ⟨hh, base⟩ := s
    simp only [evDraw0, lenA_zero] at hr
    cases hd : drawOps E call ks ops base ops (masks ops) 0 ⟨a, ⟨hh, Nat.add base ops.length⟩, [], [], 0⟩ with
    | none => rw [hd] at hr; cases hr
    | some g' =>
      rw [hd] at hr
      obtain ⟨tr, vl, h1, h2, h3⟩ := drawOps_tr ops (masks ops) 0 _ g' hd
      rw [Nat.zero_add] at h2
      have ht : Tr E call ks ops base tr vl := ⟨hok, fun j o ho => by
        obtain ⟨m, q1, q2⟩ := h3 j o ho
        rw [Nat.zero_add] at q2
        exact ⟨m, q1, q2⟩, by rw [h1], by rw [h1]⟩
      have hg' : g'.a = a' ∧ g'.s = s' := by obtain ⟨_, _, _, _, _⟩ := g'; cases hr; exact ⟨rfl, rfl⟩
      refine wp_region_any hE.any ?_
      have hrel : HRel ρ (tr 0).s.h.get (tr 0).s.nx w.heap := by
        rw [h1]
        exact hi.h.congr (fun _ => rfl) (Nat.le_add_right _ _)
      have hfresh : ∀ i, ρ (base + i) = none := fun i => hi.h.fresh (by show base ≤ base + i; omega)
      refine draw_any (ρ0 := ρ) (s0 := ⟨hh, base⟩) (H0 := w.heap) (w0 := w) (act0 := act) hE hcall ht hi.h hi.g rfl hops (Q := Q) ?_ _ _ act _ 0 ρ (by simp) ?_ ?_ ?_
      · intro act' w' q ρ' S hall hinv
        have hno : ∀ i, q ≤ i → i < ops.length → ¬ IsA E ops tr i := fun i a b c => by have := hinv.aS i c (hall i b); omega
        have hadv := hinv.advance ht hinv.qn (Nat.le_refl _) hno (fun i b _ a _ => hall i a)
        have hle := hadv.le hi.h
        have e1 : tr ops.length = g' := h2
        rw [e1, hg'.2] at hadv
        refine hQ ρ' act' w' ⟨hadv, ⟨fun t => ?_, ?_, hadv.rel, hi.g.post hi.h hadv, hinv.sz⟩, hinv.d, hinv.sm⟩
        · have h4 := hinv.temps t
          rw [lastV_eq (S := S) (j := ops.length) (fun i hi _ => hall i hi) ops.length (Nat.le_refl _) (fun i h1 h2 _ => by omega), ← ht.temps ops.length (Nat.le_refl _) t, e1, hg'.1] at h4
          exact h4
        · have : ∀ j, j ≤ ops.length → Wf ks (tr j).a := by
            intro j
            induction j with
            | zero => intro _; rw [h1]; exact hi.wf
            | succ j ih =>
              intro hj
              obtain ⟨o, m, _, _, k3⟩ := ht.get (j := j) (by omega)
              rw [k3.ha]
              exact (ih (by omega)).put _ _
          have := this ops.length (Nat.le_refl _)
          rw [e1, hg'.1] at this
          exact this
      · refine Nat.le_trans List.countP_le_length ?_
        simp
      · intro i mi hs
        simp [Array.getD_eq_getD_getElem?, Array.getElem?_replicate] at hs
        split at hs <;> simp at hs
      · have hfalse : ∀ i, (Array.replicate ops.toArray.size false).getD i false = false := by
          intro i
          simp [Array.getD_eq_getD_getElem?, Array.getElem?_replicate]
          split <;> rfl
        refine ⟨Nat.zero_le _, .inl rfl, fun i _ hs => ?_, fun i hi' => by omega, ?_, ?_, fun i b _ _ hs => ?_, fun i i' b b' p p' _ _ _ _ hs => ?_, fun i b _ _ _ => hfresh i, fun t => ?_, hi.sz, rfl, ⟨rfl, rfl⟩⟩
        · rw [hfalse] at hs; cases hs
        · rw [h1]
          exact ⟨fun _ _ => rfl, Nat.le_add_right _ _, hi.h.congr (fun _ => rfl) (Nat.le_add_right _ _), Nat.le_refl _, fun _ _ _ => rfl, fun b x p a b' c _ => ⟨b, x, p, a, b', c, rfl⟩, fun b x p a b' c _ => ⟨b, x, p, a, b', c, rfl⟩⟩
        · rw [h1]; exact Nat.le_refl _
        · rw [hfalse] at hs; cases hs
        · rw [hfalse] at hs; cases hs
        · rw [lastV_eq (S := fun i => (Array.replicate ops.toArray.size false).getD i false) (j := 0) (fun i hi => by omega) ops.length (Nat.zero_le _) (fun i _ _ _ => hfalse i)]
          show VRel ρ ((tr 0).a.get t) _
          rw [h1]
          exact hi.t t

end
end Ev
