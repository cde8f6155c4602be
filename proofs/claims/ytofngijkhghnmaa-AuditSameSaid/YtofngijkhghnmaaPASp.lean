import Derived.Test.YtofngijkhghnmaaPASx6
namespace Go.Proofs.Ytofngijkhghnmaa.PAS
open Go.RowKit Go.Proofs.YtofngijkhghnmaaW.PrintWords
set_option linter.unusedVariables false
set_option linter.unusedSimpArgs false

abbrev MM : Nat := 9223372036854775807

def allP (p : Nat → Bool) : Nat → Nat → Bool
  | _, 0 => true
  | i, d + 1 => p i && allP p (i + 1) d

theorem allP_true {p : Nat → Bool} : ∀ d i, (∀ j, i ≤ j → j < i + d → p j = true) → allP p i d = true
  | 0, _, _ => rfl
  | d + 1, i, h => by
    unfold allP
    rw [h i (Nat.le_refl _) (by omega), allP_true d (i + 1) (fun j h1 h2 => h j (by omega) (by omega))]
    rfl

theorem loop_gen {F : Nat → Int → Option Bool} {n c : Nat} {p : Nat → Bool} (hn : n ≤ MM)
    (hs : ∀ k j, c ≤ k → j < n → F (k + 1) (j : Int) = if p j = true then F k (wrap64 ((j : Int) + 1)) else some false)
    (he : ∀ k, F (k + 1) (n : Int) = some true) : ∀ d i k, i + d = n → c + d < k → F k (i : Int) = some (allP p i d)
  | 0, i, k, hi, hk => by
    obtain ⟨k, rfl⟩ : ∃ m, k = m + 1 := ⟨k - 1, by omega⟩
    have : i = n := by omega
    subst this
    exact he k
  | d + 1, i, k, hi, hk => by
    obtain ⟨k, rfl⟩ : ∃ m, k = m + 1 := ⟨k - 1, by omega⟩
    rw [hs k i (by omega) (by omega)]
    have hw : wrap64 ((i : Int) + 1) = ((i + 1 : Nat) : Int) := by
      unfold wrap64
      have : (i : Int) < 9223372036854775807 := by
        simp only [MM] at hn
        omega
      omega
    rw [hw, loop_gen hn hs he d (i + 1) k (by omega) (by omega)]
    cases hp : p i <;> simp [allP, hp]

/-! ### texts -/
def pT (l m : List ByteArray) (j : Nat) : Bool := decide ((rdOf ByteArray.empty l (j : Int)).toList = (rdOf ByteArray.empty m (j : Int)).toList)
def eqT (l m : List ByteArray) : Bool := decide ((l.length : Int) = (m.length : Int)) && allP (pT l m) 0 l.length
theorem eqT_self (l : List ByteArray) : eqT l l = true := by
  unfold eqT
  rw [allP_true l.length 0 (fun j _ _ => by simp [pT])]
  simp
theorem slicesEqual_f (k : Nat) (l m : List ByteArray) (hl : l.length ≤ MM) (hk : MM < k) : slices_Equal_string_string.f k l m = some (eqT l m) := by
  unfold slices_Equal_string_string.f eqT
  by_cases h : (l.length : Int) = (m.length : Int)
  · rw [if_pos h, decide_eq_true h, Bool.true_and]
    refine loop_gen (F := fun k i => slices_Equal_string_string.l0 k l m (l.length : Int) i) (c := 0) hl ?_ ?_ l.length 0 k (by omega) (by omega)
    · intro k j _ hj
      simp only [slices_Equal_string_string.l0, pT, decide_eq_true_eq]
      rw [if_pos (by omega), if_pos (by omega), if_pos (by omega), if_pos (by omega)]
    · intro k
      simp only [slices_Equal_string_string.l0]
      rw [if_neg (by omega)]
  · rw [if_neg h, decide_eq_false h]
    rfl
theorem refTexts_f (k : Nat) (l m : List ByteArray) (hl : l.length ≤ MM) (hk : MM < k) : lazarusref14_Texts.f k l m = some (eqT l m) := by
  unfold lazarusref14_Texts.f eqT
  by_cases h : (l.length : Int) = (m.length : Int)
  · rw [if_pos h, decide_eq_true h, Bool.true_and]
    refine loop_gen (F := fun k i => lazarusref14_Texts.l0 k l m i) (c := 0) hl ?_ ?_ l.length 0 k (by omega) (by omega)
    · intro k j _ hj
      simp only [lazarusref14_Texts.l0, pT, decide_eq_true_eq]
      rw [if_pos (by omega), if_pos (by omega), if_pos (by omega)]
    · intro k
      simp only [lazarusref14_Texts.l0]
      rw [if_neg (by omega)]
  · rw [if_neg h, decide_eq_false h]
    rfl

/-! ### names and values -/
def pV (l m : List S55) (j : Nat) : Bool := !((!((((rd_T55 l (j : Int)).f0).toList) == (((rd_T55 m (j : Int)).f0).toList)) || (!((((rd_T55 l (j : Int)).f1).toList) == (((rd_T55 m (j : Int)).f1).toList)))))
def eqV (l m : List S55) : Bool := decide ((l.length : Int) = (m.length : Int)) && allP (pV l m) 0 l.length
theorem eqV_self (l : List S55) : eqV l l = true := by
  unfold eqV
  rw [allP_true l.length 0 (fun j _ _ => by simp [pV])]
  simp
theorem flip_ {α : Type} (b : Bool) (x y : α) : (if b = true then x else y) = if (!b) = true then y else x := by cases b <;> rfl
theorem apiBinding_f (k : Nat) (l m : List S55) (hl : l.length ≤ MM) (hk : MM < k) : api_Binding.f k l m = some (eqV l m) := by
  unfold api_Binding.f eqV
  by_cases h : (l.length : Int) = (m.length : Int)
  · rw [if_pos h, decide_eq_true h, Bool.true_and]
    refine loop_gen (F := fun k i => api_Binding.l0 k l m (l.length : Int) i) (c := 0) hl ?_ ?_ l.length 0 k (by omega) (by omega)
    · intro k j _ hj
      simp only [api_Binding.l0, pV]
      rw [if_pos (by omega), if_pos (by omega), if_pos (by omega), if_pos (by omega)]
      exact flip_ _ _ _
    · intro k
      simp only [api_Binding.l0]
      rw [if_neg (by omega)]
  · rw [if_neg h, decide_eq_false h]
    rfl
theorem refVars_f (k : Nat) (l m : List S55) (hl : l.length ≤ MM) (hk : MM < k) : lazarusref14_Vars.f k l m = some (eqV l m) := by
  unfold lazarusref14_Vars.f eqV
  by_cases h : (l.length : Int) = (m.length : Int)
  · rw [if_pos h, decide_eq_true h, Bool.true_and]
    refine loop_gen (F := fun k i => lazarusref14_Vars.l0 k l m i) (c := 0) hl ?_ ?_ l.length 0 k (by omega) (by omega)
    · intro k j _ hj
      simp only [lazarusref14_Vars.l0, pV]
      rw [if_pos (by omega), if_pos (by omega), if_pos (by omega)]
      exact flip_ _ _ _
    · intro k
      simp only [lazarusref14_Vars.l0]
      rw [if_neg (by omega)]
  · rw [if_neg h, decide_eq_false h]
    rfl

/-! ### files -/
def pF (l m : List S59) (j : Nat) : Bool := !((!((((rd_T59 l (j : Int)).f0).toList) == (((rd_T59 m (j : Int)).f0).toList)) || (!((((rd_T59 l (j : Int)).f1).toList) == (((rd_T59 m (j : Int)).f1).toList)))))
def eqF (l m : List S59) : Bool := decide ((l.length : Int) = (m.length : Int)) && allP (pF l m) 0 l.length
theorem eqF_self (l : List S59) : eqF l l = true := by
  unfold eqF
  rw [allP_true l.length 0 (fun j _ _ => by simp [pF])]
  simp
theorem apiFile_f (k : Nat) (l m : List S59) (hl : l.length ≤ MM) (hk : MM < k) : api_File.f k l m = some (eqF l m) := by
  unfold api_File.f eqF
  by_cases h : (l.length : Int) = (m.length : Int)
  · rw [if_pos h, decide_eq_true h, Bool.true_and]
    refine loop_gen (F := fun k i => api_File.l0 k l m (l.length : Int) i) (c := 0) hl ?_ ?_ l.length 0 k (by omega) (by omega)
    · intro k j _ hj
      simp only [api_File.l0, pF]
      rw [if_pos (by omega), if_pos (by omega), if_pos (by omega), if_pos (by omega)]
      exact flip_ _ _ _
    · intro k
      simp only [api_File.l0]
      rw [if_neg (by omega)]
  · rw [if_neg h, decide_eq_false h]
    rfl
theorem refSame17_f (k : Nat) (l m : List S59) (hl : l.length ≤ MM) (hk : MM < k) : lazarusref17_Same.f k l m = some (eqF l m) := by
  unfold lazarusref17_Same.f eqF
  by_cases h : (l.length : Int) = (m.length : Int)
  · rw [if_pos h, decide_eq_true h, Bool.true_and]
    refine loop_gen (F := fun k i => lazarusref17_Same.l0 k l m i) (c := 0) hl ?_ ?_ l.length 0 k (by omega) (by omega)
    · intro k j _ hj
      simp only [lazarusref17_Same.l0, pF]
      rw [if_pos (by omega), if_pos (by omega), if_pos (by omega)]
      exact flip_ _ _ _
    · intro k
      simp only [lazarusref17_Same.l0]
      rw [if_neg (by omega)]
  · rw [if_neg h, decide_eq_false h]
    rfl

/-! ### calls -/
def eqC (n : Int) (l : List ByteArray) (v : List S55) (s : ByteArray) (n' : Int) (l' : List ByteArray) (v' : List S55) (s' : ByteArray) : Bool :=
  decide (n = n') && (eqT l l' && (eqV v v' && (s.toList == s'.toList)))
theorem eqC_self (n : Int) (l : List ByteArray) (v : List S55) (s : ByteArray) : eqC n l v s n l v s = true := by
  unfold eqC
  rw [eqT_self, eqV_self]
  simp
theorem auditCall_f (k : Nat) (n : Int) (l : List ByteArray) (v : List S55) (s : ByteArray) (n' : Int) (l' : List ByteArray) (v' : List S55) (s' : ByteArray) (hl : l.length ≤ MM) (hv : v.length ≤ MM) (hk : MM < k) :
    audit_Call.f k n l v s n' l' v' s' = some (eqC n l v s n' l' v' s') := by
  unfold audit_Call.f eqC
  rw [slicesEqual_f k l l' hl hk, apiBinding_f k v v' hv hk]
  by_cases h : n = n'
  · rw [if_pos h, decide_eq_true h]
    cases eqT l l' <;> cases eqV v v' <;> rfl
  · rw [if_neg h, decide_eq_false h]
    rfl
theorem refCalls_f (k : Nat) (n : Int) (l : List ByteArray) (v : List S55) (s : ByteArray) (n' : Int) (l' : List ByteArray) (v' : List S55) (s' : ByteArray) (hl : l.length ≤ MM) (hv : v.length ≤ MM) (hk : MM < k) :
    lazarusref19_Calls.f k n l v s n' l' v' s' = some (eqC n l v s n' l' v' s') := by
  unfold lazarusref19_Calls.f eqC
  rw [refTexts_f k l l' hl hk, refVars_f k v v' hv hk]
  by_cases h : n = n'
  · rw [if_pos h, decide_eq_true h]
    cases eqT l l' <;> cases eqV v v' <;> rfl
  · rw [if_neg h, decide_eq_false h]
    rfl

def Fit35 (x : S35) : Prop := x.f1.length ≤ MM ∧ x.f2.length ≤ MM
theorem fit_rd {l : List S35} (h : ∀ x ∈ l, Fit35 x) (j : Nat) (hj : j < l.length) : Fit35 (rd_T35 l (j : Int)) := by
  unfold rd_T35
  rw [Int.toNat_natCast, List.getD_eq_getElem?_getD, List.getElem?_eq_getElem hj]
  exact h _ (List.getElem_mem hj)
def pC (l m : List S35) (j : Nat) : Bool := eqC ((rd_T35 l (j : Int)).f0) ((rd_T35 l (j : Int)).f1) ((rd_T35 l (j : Int)).f2) ((rd_T35 l (j : Int)).f3) ((rd_T35 m (j : Int)).f0) ((rd_T35 m (j : Int)).f1) ((rd_T35 m (j : Int)).f2) ((rd_T35 m (j : Int)).f3)
def eqCs (l m : List S35) : Bool := decide ((l.length : Int) = (m.length : Int)) && allP (pC l m) 0 l.length
theorem eqCs_self (l : List S35) : eqCs l l = true := by
  unfold eqCs
  rw [allP_true l.length 0 (fun j _ _ => by unfold pC; exact eqC_self _ _ _ _)]
  simp
theorem apiCall_f (k : Nat) (l m : List S35) (a2 : Int) (hl : l.length ≤ MM) (hf : ∀ x ∈ l, Fit35 x) (hk : 2 * MM + 2 < k) : api_Call.f k l m a2 = some (eqCs l m) := by
  unfold api_Call.f eqCs
  by_cases h : (l.length : Int) = (m.length : Int)
  · rw [if_pos h, decide_eq_true h, Bool.true_and]
    refine loop_gen (F := fun k i => api_Call.l0 k m l (l.length : Int) i) (c := MM + 1) hl ?_ ?_ l.length 0 k (by omega) (by omega)
    · intro k j hk hj
      have hfj := fit_rd hf j hj
      simp only [api_Call.l0, pC]
      rw [if_pos (by omega), if_pos (by omega), if_pos (by omega), if_pos (by omega), auditCall_f k _ _ _ _ _ _ _ _ hfj.1 hfj.2 (by omega)]
      rfl
    · intro k
      simp only [api_Call.l0]
      rw [if_neg (by omega)]
  · rw [if_neg h, decide_eq_false h]
    rfl

/-! ### outcomes -/
def eqO (e s : Int) (o : ByteArray) (f : List S59) (v : List S55) (c : List S35) (e' s' : Int) (o' : ByteArray) (f' : List S59) (v' : List S55) (c' : List S35) : Bool :=
  decide (e = e') && (decide (s = s') && (decide (o.toList = o'.toList) && (eqF f f' && (eqV v v' && eqCs c c'))))
theorem eqO_self (e s : Int) (o : ByteArray) (f : List S59) (v : List S55) (c : List S35) : eqO e s o f v c e s o f v c = true := by
  unfold eqO
  rw [eqF_self, eqV_self, eqCs_self]
  simp
theorem auditSame_f (k : Nat) (e s : Int) (o : ByteArray) (f : List S59) (v : List S55) (c : List S35) (e' s' : Int) (o' : ByteArray) (f' : List S59) (v' : List S55) (c' : List S35)
    (h1 : f.length ≤ MM) (h2 : v.length ≤ MM) (h3 : c.length ≤ MM) (hf : ∀ x ∈ c, Fit35 x) (hk : 2 * MM + 2 < k) :
    audit_Same.f k e s o f v c e' s' o' f' v' c' = some (eqO e s o f v c e' s' o' f' v' c') := by
  unfold audit_Same.f audit_same.f eqO
  rw [apiFile_f k f f' h1 (by omega), apiBinding_f k v v' h2 (by omega), apiCall_f k c c' 0 h3 hf hk]
  by_cases he : e = e'
  · rw [if_pos he, decide_eq_true he]
    by_cases hs : s = s'
    · rw [if_pos hs, decide_eq_true hs]
      by_cases ho : o.toList = o'.toList
      · rw [if_pos ho, decide_eq_true ho]
        cases eqF f f' <;> cases eqV v v' <;> rfl
      · rw [if_neg ho, decide_eq_false ho]
        rfl
    · rw [if_neg hs, decide_eq_false hs]
      rfl
  · rw [if_neg he, decide_eq_false he]
    rfl
theorem refSame_l (k : Nat) (e s : Int) (o : ByteArray) (f : List S59) (v : List S55) (c : List S35) (e' s' : Int) (o' : ByteArray) (f' : List S59) (v' : List S55) (c' : List S35)
    (h3 : c.length ≤ MM) (hf : ∀ x ∈ c, Fit35 x) (hk : 2 * MM + 3 < k) :
    lazarusref24_Same.j0 k ((c.length : Int) != (c'.length : Int)) e s o f v c e' s' o' f' v' c' = some (eqCs c c') := by
  obtain ⟨k, rfl⟩ : ∃ m, k = m + 1 := ⟨k - 1, by omega⟩
  unfold eqCs
  simp only [lazarusref24_Same.j0]
  by_cases h : (c.length : Int) = (c'.length : Int)
  · rw [if_neg (by simp [h]), decide_eq_true h, Bool.true_and]
    refine loop_gen (F := fun k i => lazarusref24_Same.l0 k i e s o f v c e' s' o' f' v' c') (c := MM + 1) h3 ?_ ?_ c.length 0 k (by omega) (by omega)
    · intro k j hk hj
      have hfj := fit_rd hf j hj
      simp only [lazarusref24_Same.l0, pC]
      rw [if_pos (by omega), if_pos (by omega), if_pos (by omega), refCalls_f k _ _ _ _ _ _ _ _ hfj.1 hfj.2 (by omega)]
      rfl
    · intro k
      simp only [lazarusref24_Same.l0]
      rw [if_neg (by omega)]
  · rw [if_pos (by simpa using h), decide_eq_false h]
    rfl
theorem refSame_true (k : Nat) (e s : Int) (o : ByteArray) (f : List S59) (v : List S55) (c : List S35) (e' s' : Int) (o' : ByteArray) (f' : List S59) (v' : List S55) (c' : List S35) (hk : 0 < k) :
    lazarusref24_Same.j0 k true e s o f v c e' s' o' f' v' c' = some false := by
  obtain ⟨k, rfl⟩ : ∃ m, k = m + 1 := ⟨k - 1, by omega⟩
  rfl
theorem refSame_f (k : Nat) (e s : Int) (o : ByteArray) (f : List S59) (v : List S55) (c : List S35) (e' s' : Int) (o' : ByteArray) (f' : List S59) (v' : List S55) (c' : List S35)
    (h1 : f.length ≤ MM) (h2 : v.length ≤ MM) (h3 : c.length ≤ MM) (hf : ∀ x ∈ c, Fit35 x) (hk : 2 * MM + 3 < k) :
    lazarusref24_Same.f k e s o f v c e' s' o' f' v' c' = some (eqO e s o f v c e' s' o' f' v' c') := by
  unfold lazarusref24_Same.f eqO
  rw [refSame17_f k f f' h1 (by omega), refVars_f k v v' h2 (by omega), refSame_l k e s o f v c e' s' o' f' v' c' h3 hf hk, refSame_true k e s o f v c e' s' o' f' v' c' (by omega)]
  by_cases he : e = e'
  · rw [if_pos he, decide_eq_true he]
    by_cases hs : s = s'
    · rw [if_pos hs, decide_eq_true hs]
      by_cases ho : o.toList = o'.toList
      · rw [if_pos ho, decide_eq_true ho]
        cases eqF f f' <;> cases eqV v v' <;> rfl
      · rw [if_neg ho, decide_eq_false ho]
        rfl
    · rw [if_neg hs, decide_eq_false hs]
      rfl
  · rw [if_neg he, decide_eq_false he]
    rfl

/-! ### the law -/
theorem law_true (k : Nat) (e s : Int) (o : ByteArray) (f : List S59) (v : List S55) (c : List S35) (e' s' : Int) (o' : ByteArray) (f' : List S59) (v' : List S55) (c' : List S35)
    (n : Int) (la : List ByteArray) (va : List S55) (sa : ByteArray) (n' : Int) (la' : List ByteArray) (va' : List S55) (sa' : ByteArray)
    (h1 : f.length ≤ MM) (h2 : v.length ≤ MM) (h3 : c.length ≤ MM) (hf : ∀ x ∈ c, Fit35 x) (h4 : la.length ≤ MM) (h5 : va.length ≤ MM) (hk : 2 * MM + 5 < k) :
    lazaruslaw27_AuditSame.f k e s o f v c e' s' o' f' v' c' n la va sa n' la' va' sa' = some true := by
  obtain ⟨k, rfl⟩ : ∃ m, k = m + 1 := ⟨k - 1, by omega⟩
  have key : ∀ b, lazaruslaw27_AuditSame.j0 (k + 1) b e s o f v c e' s' o' f' v' c' n la va sa n' la' va' sa' = some true := by
    intro b
    simp only [lazaruslaw27_AuditSame.j0]
    rw [auditSame_f k e s o f v c e' s' o' f' v' c' h1 h2 h3 hf (by omega), refSame_f k e s o f v c e' s' o' f' v' c' h1 h2 h3 hf (by omega), auditSame_f k e s o f v c e s o f v c h1 h2 h3 hf (by omega), eqO_self,
      auditCall_f k n la va sa n' la' va' sa' h4 h5 (by omega), refCalls_f k n la va sa n' la' va' sa' h4 h5 (by omega), auditCall_f k n la va sa n la va sa h4 h5 (by omega), eqC_self]
    simp [lazaruslaw27_known.f]
  unfold lazaruslaw27_AuditSame.f
  rw [key, key]
  split <;> rfl
end Go.Proofs.Ytofngijkhghnmaa.PAS
