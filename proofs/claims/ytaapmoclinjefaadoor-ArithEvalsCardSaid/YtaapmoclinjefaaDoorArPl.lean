namespace Ar
inductive Tr where
  | dig (t : List UInt8)
  | nam (t : List UInt8)
  | un (op : List UInt8) (k : Tr)
  | bin (op : List UInt8) (a b : Tr)
def firstN (n : Nat) : Bool := (Nat.ble 97 n && Nat.ble n 122) || (Nat.ble 65 n && Nat.ble n 90) || Nat.beq n 95
def digN (n : Nat) : Bool := Nat.ble 48 n && Nat.ble n 57
def moreN (n : Nat) : Bool := firstN n || digN n
def isBl (c : UInt8) : Bool := c == 32 || c == 9 || c == 10
def dropBl (l : List UInt8) : List UInt8 := l.dropWhile isBl
def pre (l p : List UInt8) : Bool := l.take p.length == p
def takeF : List (List UInt8) → List UInt8 → List UInt8 × List UInt8
  | [], l => ([], l)
  | x :: xs, l => if pre l x then (x, l.drop x.length) else takeF xs l
def tw (p : Nat → Bool) (l : List UInt8) : List UInt8 := l.takeWhile fun c => p c.toNat
def nameB (l : List UInt8) : Bool := match l with
  | [] => false
  | c :: r => firstN c.toNat && Nat.ble (c :: r).length 12
def sgU : List (List UInt8) := [[45], [33], [40]]
def sgC : List (List UInt8) := [[41]]
def sgP : List (List UInt8) := [[42], [47], [37]]
def sgS : List (List UInt8) := [[43], [45]]
def sgX : List (List UInt8) := [[60, 61], [62, 61], [61, 61], [33, 61], [60], [62]]
def tk (sg : List (List UInt8)) (l : List UInt8) : List UInt8 × List UInt8 := takeF sg (dropBl l)
inductive Kd where
  | U | P | S | X
  | PL (t : Tr)
  | SL (t : Tr)
inductive Ps : Kd → List UInt8 → Bool → Tr → List UInt8 → Bool → Prop
  | sign {l b t l' b'} : (tk sgU l).1 ≠ [] → (tk sgU l).1 ≠ [40] → Ps .U (tk sgU l).2 b t l' b' → Ps .U l b (.un (tk sgU l).1 t) l' b'
  | par {l b t l1 b1} : (tk sgU l).1 = [40] → Ps .X (tk sgU l).2 b t l1 b1 → Ps .U l b t (tk sgC l1).2 (b1 || (tk sgC l1).1 == [])
  | dig {l b} : (tk sgU l).1 = [] → tw digN (tk sgU l).2 ≠ [] → Ps .U l b (.dig (tw digN (tk sgU l).2)) ((tk sgU l).2.drop (tw digN (tk sgU l).2).length) b
  | nam {l b} : (tk sgU l).1 = [] → tw digN (tk sgU l).2 = [] → nameB (tw moreN (tk sgU l).2) = true → Ps .U l b (.nam (tw moreN (tk sgU l).2)) ((tk sgU l).2.drop (tw moreN (tk sgU l).2).length) b
  | namx {l b} : (tk sgU l).1 = [] → tw digN (tk sgU l).2 = [] → nameB (tw moreN (tk sgU l).2) = false → Ps .U l b (.nam (tw moreN (tk sgU l).2)) [] true
  | prod {l b t l1 b1 t' l' b'} : Ps .U l b t l1 b1 → Ps (.PL t) l1 b1 t' l' b' → Ps .P l b t' l' b'
  | pbad {t l} : Ps (.PL t) l true t l true
  | pend {t l} : (tk sgP l).1 = [] → Ps (.PL t) l false t (tk sgP l).2 false
  | pmore {t l u l1 b1 t' l' b'} : (tk sgP l).1 ≠ [] → Ps .U (tk sgP l).2 false u l1 b1 → Ps (.PL (.bin (tk sgP l).1 t u)) l1 b1 t' l' b' → Ps (.PL t) l false t' l' b'
  | sum {l b t l1 b1 t' l' b'} : Ps .P l b t l1 b1 → Ps (.SL t) l1 b1 t' l' b' → Ps .S l b t' l' b'
  | sbad {t l} : Ps (.SL t) l true t l true
  | send {t l} : (tk sgS l).1 = [] → Ps (.SL t) l false t (tk sgS l).2 false
  | smore {t l u l1 b1 t' l' b'} : (tk sgS l).1 ≠ [] → Ps .P (tk sgS l).2 false u l1 b1 → Ps (.SL (.bin (tk sgS l).1 t u)) l1 b1 t' l' b' → Ps (.SL t) l false t' l' b'
  | expr {l b t l1 b1} : Ps .S l b t l1 b1 → (tk sgX l1).1 = [] → Ps .X l b t (tk sgX l1).2 b1
  | cmp {l b t l1 b1 u l' b'} : Ps .S l b t l1 b1 → (tk sgX l1).1 ≠ [] → Ps .S (tk sgX l1).2 b1 u l' b' → Ps .X l b (.bin (tk sgX l1).1 t u) l' b'
theorem Ps.det {k : Kd} {l : List UInt8} {b : Bool} {t : Tr} {l' : List UInt8} {b' : Bool} (h : Ps k l b t l' b') : ∀ {t2 l2 b2}, Ps k l b t2 l2 b2 → t2 = t ∧ l2 = l' ∧ b2 = b' := by
  induction h with
  | sign h1 h2 _ ih =>
    intro t2 l2 b2 h
    cases h with
    | sign _ _ h' => obtain ⟨rfl, rfl, rfl⟩ := ih h'; exact ⟨rfl, rfl, rfl⟩
    | par h' => exact absurd h' h2
    | dig h' => exact absurd h' h1
    | nam h' => exact absurd h' h1
    | namx h' => exact absurd h' h1
  | par h1 _ ih =>
    intro t2 l2 b2 h
    cases h with
    | sign _ h' => exact absurd h1 h'
    | par _ h' => obtain ⟨rfl, rfl, rfl⟩ := ih h'; exact ⟨rfl, rfl, rfl⟩
    | dig h' => rw [h1] at h'; cases h'
    | nam h' => rw [h1] at h'; cases h'
    | namx h' => rw [h1] at h'; cases h'
  | dig h1 h2 =>
    intro t2 l2 b2 h
    cases h with
    | sign h' => exact absurd h1 h'
    | par h' => rw [h1] at h'; cases h'
    | dig => exact ⟨rfl, rfl, rfl⟩
    | nam _ h' => exact absurd h' h2
    | namx _ h' => exact absurd h' h2
  | nam h1 h2 h3 =>
    intro t2 l2 b2 h
    cases h with
    | sign h' => exact absurd h1 h'
    | par h' => rw [h1] at h'; cases h'
    | dig _ h' => exact absurd h2 h'
    | nam => exact ⟨rfl, rfl, rfl⟩
    | namx _ _ h' => rw [h3] at h'; cases h'
  | namx h1 h2 h3 =>
    intro t2 l2 b2 h
    cases h with
    | sign h' => exact absurd h1 h'
    | par h' => rw [h1] at h'; cases h'
    | dig _ h' => exact absurd h2 h'
    | nam _ _ h' => rw [h3] at h'; cases h'
    | namx => exact ⟨rfl, rfl, rfl⟩
  | prod _ _ ih1 ih2 =>
    intro t2 l2 b2 h
    cases h with
    | prod h' h'' => obtain ⟨rfl, rfl, rfl⟩ := ih1 h'; exact ih2 h''
  | pbad =>
    intro t2 l2 b2 h
    cases h with
    | pbad => exact ⟨rfl, rfl, rfl⟩
  | pend h1 =>
    intro t2 l2 b2 h
    cases h with
    | pend => exact ⟨rfl, rfl, rfl⟩
    | pmore h' => exact absurd h1 h'
  | pmore h1 _ _ ih1 ih2 =>
    intro t2 l2 b2 h
    cases h with
    | pend h' => exact absurd h' h1
    | pmore _ h' h'' => obtain ⟨rfl, rfl, rfl⟩ := ih1 h'; exact ih2 h''
  | sum _ _ ih1 ih2 =>
    intro t2 l2 b2 h
    cases h with
    | sum h' h'' => obtain ⟨rfl, rfl, rfl⟩ := ih1 h'; exact ih2 h''
  | sbad =>
    intro t2 l2 b2 h
    cases h with
    | sbad => exact ⟨rfl, rfl, rfl⟩
  | send h1 =>
    intro t2 l2 b2 h
    cases h with
    | send => exact ⟨rfl, rfl, rfl⟩
    | smore h' => exact absurd h1 h'
  | smore h1 _ _ ih1 ih2 =>
    intro t2 l2 b2 h
    cases h with
    | send h' => exact absurd h' h1
    | smore _ h' h'' => obtain ⟨rfl, rfl, rfl⟩ := ih1 h'; exact ih2 h''
  | expr _ h1 ih =>
    intro t2 l2 b2 h
    cases h with
    | expr h' => obtain ⟨rfl, rfl, rfl⟩ := ih h'; exact ⟨rfl, rfl, rfl⟩
    | cmp h' h'' => obtain ⟨rfl, rfl, rfl⟩ := ih h'; exact absurd h1 h''
  | cmp _ h1 _ ih1 ih2 =>
    intro t2 l2 b2 h
    cases h with
    | expr h' h'' => obtain ⟨rfl, rfl, rfl⟩ := ih1 h'; exact absurd h'' h1
    | cmp h' _ h'' =>
      obtain ⟨rfl, rfl, rfl⟩ := ih1 h'
      obtain ⟨rfl, rfl, rfl⟩ := ih2 h''
      exact ⟨rfl, rfl, rfl⟩
theorem dropBl_le (l : List UInt8) : (dropBl l).length ≤ l.length := by
  unfold dropBl
  induction l with
  | nil => exact Nat.le_refl _
  | cons c l ih => rw [List.dropWhile_cons]; split <;> simp <;> omega
theorem pre_le {l p : List UInt8} (h : pre l p = true) : p.length ≤ l.length := by
  have := congrArg List.length (eq_of_beq h)
  rw [List.length_take] at this; omega
theorem takeF_le : ∀ (sg : List (List UInt8)) (l : List UInt8), (takeF sg l).1.length + (takeF sg l).2.length ≤ l.length
  | [], l => by show 0 + l.length ≤ _; omega
  | x :: xs, l => by
    unfold takeF
    split
    · rename_i h
      have := pre_le h
      simp; omega
    · exact takeF_le xs l
theorem tk_le (sg : List (List UInt8)) (l : List UInt8) : (tk sg l).1.length + (tk sg l).2.length ≤ l.length := Nat.le_trans (takeF_le _ _) (dropBl_le _)
theorem tk_lt {sg : List (List UInt8)} {l : List UInt8} (h : (tk sg l).1 ≠ []) : (tk sg l).2.length < l.length := by
  have := tk_le sg l
  have : 1 ≤ (tk sg l).1.length := by cases hh : (tk sg l).1 with
    | nil => exact absurd hh h
    | cons a b => simp
  omega
theorem tk_le2 (sg : List (List UInt8)) (l : List UInt8) : (tk sg l).2.length ≤ l.length := by have := tk_le sg l; omega
theorem tk_le1 (sg : List (List UInt8)) (l : List UInt8) : (tk sg l).1.length ≤ l.length := by have := tk_le sg l; omega
theorem Ps.le {k : Kd} {l : List UInt8} {b : Bool} {t : Tr} {l' : List UInt8} {b' : Bool} (h : Ps k l b t l' b') : l'.length ≤ l.length := by
  induction h with
  | sign h1 _ _ ih => have := tk_lt h1; omega
  | @par l _ _ l1 _ _ _ ih => have := tk_le2 sgU l; have := tk_le2 sgC l1; omega
  | @dig l _ _ _ => have := tk_le2 sgU l; simp; omega
  | @nam l _ _ _ _ => have := tk_le2 sgU l; simp; omega
  | namx => simp
  | prod _ _ ih1 ih2 => omega
  | pbad => omega
  | @pend _ l _ => exact tk_le2 _ _
  | pmore h1 _ _ ih1 ih2 => have := tk_lt h1; omega
  | sum _ _ ih1 ih2 => omega
  | sbad => omega
  | @send _ l _ => exact tk_le2 _ _
  | smore h1 _ _ ih1 ih2 => have := tk_lt h1; omega
  | @expr _ _ _ l1 _ _ _ ih => have := tk_le2 sgX l1; omega
  | cmp _ h1 _ ih1 ih2 => have := tk_lt h1; omega
end Ar
