import Derived.Test.YtaapmoclinjefaaDoorArPl
namespace Ar
theorem Ps.lead {k : Kd} {l : List UInt8} {b : Bool} {t : Tr} {l' : List UInt8} {b' : Bool} (h : Ps k l b t l' b') : ∀ {m : List UInt8}, dropBl m = dropBl l → ∃ m', Ps k m b t m' b' ∧ dropBl m' = dropBl l' := by
  have tke : ∀ {sg : List (List UInt8)} {m l : List UInt8}, dropBl m = dropBl l → tk sg m = tk sg l := fun e => by unfold tk; rw [e]
  induction h with
  | sign h1 h2 h3 _ => intro m e; rw [← tke e] at h1 h2 h3 ⊢; exact ⟨_, .sign h1 h2 h3, rfl⟩
  | par h1 h2 _ => intro m e; rw [← tke e] at h1 h2; exact ⟨_, .par h1 h2, rfl⟩
  | dig h1 h2 => intro m e; rw [← tke e] at h1 h2 ⊢; exact ⟨_, .dig h1 h2, rfl⟩
  | nam h1 h2 h3 => intro m e; rw [← tke e] at h1 h2 h3 ⊢; exact ⟨_, .nam h1 h2 h3, rfl⟩
  | namx h1 h2 h3 => intro m e; rw [← tke e] at h1 h2 h3 ⊢; exact ⟨_, .namx h1 h2 h3, rfl⟩
  | prod _ _ ih1 ih2 =>
    intro m e
    obtain ⟨m1, g1, g2⟩ := ih1 e
    obtain ⟨m2, g3, g4⟩ := ih2 g2
    exact ⟨m2, .prod g1 g3, g4⟩
  | pbad => intro m e; exact ⟨m, .pbad, e⟩
  | pend h1 => intro m e; rw [← tke e] at h1 ⊢; exact ⟨_, .pend h1, rfl⟩
  | pmore h1 h2 h3 _ _ => intro m e; rw [← tke e] at h1 h2 h3; exact ⟨_, .pmore h1 h2 h3, rfl⟩
  | sum _ _ ih1 ih2 =>
    intro m e
    obtain ⟨m1, g1, g2⟩ := ih1 e
    obtain ⟨m2, g3, g4⟩ := ih2 g2
    exact ⟨m2, .sum g1 g3, g4⟩
  | sbad => intro m e; exact ⟨m, .sbad, e⟩
  | send h1 => intro m e; rw [← tke e] at h1 ⊢; exact ⟨_, .send h1, rfl⟩
  | smore h1 h2 h3 _ _ => intro m e; rw [← tke e] at h1 h2 h3; exact ⟨_, .smore h1 h2 h3, rfl⟩
  | expr _ h1 ih =>
    intro m e
    obtain ⟨m1, g1, g2⟩ := ih e
    rw [← tke g2] at h1 ⊢
    exact ⟨_, .expr g1 h1, rfl⟩
  | cmp _ h1 h2 ih _ =>
    intro m e
    obtain ⟨m1, g1, g2⟩ := ih e
    rw [← tke g2] at h1 h2 ⊢
    exact ⟨_, .cmp g1 h1 h2, rfl⟩
theorem Ps.stick {k : Kd} {l : List UInt8} {b : Bool} {t : Tr} {l' : List UInt8} {b' : Bool} (h : Ps k l b t l' b') : b = true → b' = true := by
  induction h with
  | sign _ _ _ ih => exact ih
  | par _ _ ih => intro h; rw [ih h]; rfl
  | dig => exact id
  | nam => exact id
  | namx => intro _; rfl
  | prod _ _ ih1 ih2 => exact fun h => ih2 (ih1 h)
  | pbad => exact id
  | pend => exact id
  | pmore => intro h; cases h
  | sum _ _ ih1 ih2 => exact fun h => ih2 (ih1 h)
  | sbad => exact id
  | send => exact id
  | smore => intro h; cases h
  | expr _ _ ih => exact ih
  | cmp _ _ _ ih1 ih2 => exact fun h => ih2 (ih1 h)
def Tot (k : Kd) (l : List UInt8) : Prop := ∀ b, ∃ t l' b', Ps k l b t l' b'
theorem totPL {n : Nat} (hU : ∀ l, l.length < n → Tot .U l) : ∀ m l, l.length ≤ m → l.length ≤ n → ∀ t, Tot (.PL t) l := by
  intro m
  induction m with
  | zero =>
    intro l hl hn t b
    cases b with
    | true => exact ⟨_, _, _, .pbad⟩
    | false =>
      by_cases h : (tk sgP l).1 = []
      · exact ⟨_, _, _, .pend h⟩
      · have := tk_lt h; omega
  | succ m ih =>
    intro l hl hn t b
    cases b with
    | true => exact ⟨_, _, _, .pbad⟩
    | false =>
      by_cases h : (tk sgP l).1 = []
      · exact ⟨_, _, _, .pend h⟩
      · have hlt := tk_lt h
        obtain ⟨u, l1, b1, g⟩ := hU (tk sgP l).2 (by omega) false
        have := g.le
        obtain ⟨t', l', b', g2⟩ := ih l1 (by omega) (by omega) (.bin (tk sgP l).1 t u) b1
        exact ⟨_, _, _, .pmore h g g2⟩
theorem totSL {n : Nat} (hP : ∀ l, l.length < n → Tot .P l) : ∀ m l, l.length ≤ m → l.length ≤ n → ∀ t, Tot (.SL t) l := by
  intro m
  induction m with
  | zero =>
    intro l hl hn t b
    cases b with
    | true => exact ⟨_, _, _, .sbad⟩
    | false =>
      by_cases h : (tk sgS l).1 = []
      · exact ⟨_, _, _, .send h⟩
      · have := tk_lt h; omega
  | succ m ih =>
    intro l hl hn t b
    cases b with
    | true => exact ⟨_, _, _, .sbad⟩
    | false =>
      by_cases h : (tk sgS l).1 = []
      · exact ⟨_, _, _, .send h⟩
      · have hlt := tk_lt h
        obtain ⟨u, l1, b1, g⟩ := hP (tk sgS l).2 (by omega) false
        have := g.le
        obtain ⟨t', l', b', g2⟩ := ih l1 (by omega) (by omega) (.bin (tk sgS l).1 t u) b1
        exact ⟨_, _, _, .smore h g g2⟩
theorem tot : ∀ n, ∀ l : List UInt8, l.length < n → Tot .U l ∧ Tot .P l ∧ Tot .S l ∧ Tot .X l := by
  intro n
  induction n with
  | zero => intro l h; omega
  | succ n ih =>
    have hU : ∀ l : List UInt8, l.length < n + 1 → Tot .U l := by
      intro l hl b
      by_cases h : (tk sgU l).1 = []
      · by_cases h2 : tw digN (tk sgU l).2 = []
        · cases h3 : nameB (tw moreN (tk sgU l).2) with
          | true => exact ⟨_, _, _, .nam h h2 h3⟩
          | false => exact ⟨_, _, _, .namx h h2 h3⟩
        · exact ⟨_, _, _, .dig h h2⟩
      · have hlt := tk_lt h
        by_cases h4 : (tk sgU l).1 = [40]
        · obtain ⟨t, l1, b1, g⟩ := (ih _ (by omega : (tk sgU l).2.length < n)).2.2.2 b
          exact ⟨_, _, _, .par h4 g⟩
        · obtain ⟨t, l1, b1, g⟩ := (ih _ (by omega : (tk sgU l).2.length < n)).1 b
          exact ⟨_, _, _, .sign h h4 g⟩
    have hP : ∀ l : List UInt8, l.length < n + 1 → Tot .P l := by
      intro l hl b
      obtain ⟨t, l1, b1, g⟩ := hU l hl b
      have := g.le
      obtain ⟨t', l', b', g2⟩ := totPL (n := n) (fun l h => (ih l h).1) l1.length l1 (Nat.le_refl _) (by omega) t b1
      exact ⟨_, _, _, .prod g g2⟩
    have hS : ∀ l : List UInt8, l.length < n + 1 → Tot .S l := by
      intro l hl b
      obtain ⟨t, l1, b1, g⟩ := hP l hl b
      have := g.le
      obtain ⟨t', l', b', g2⟩ := totSL (n := n) (fun l h => (ih l h).2.1) l1.length l1 (Nat.le_refl _) (by omega) t b1
      exact ⟨_, _, _, .sum g g2⟩
    intro l hl
    refine ⟨hU l hl, hP l hl, hS l hl, fun b => ?_⟩
    obtain ⟨t, l1, b1, g⟩ := hS l hl b
    have := g.le
    by_cases h : (tk sgX l1).1 = []
    · exact ⟨_, _, _, .expr g h⟩
    · have hlt := tk_lt h
      obtain ⟨u, l2, b2, g2⟩ := (ih _ (by omega : (tk sgX l1).2.length < n)).2.2.1 b1
      exact ⟨_, _, _, .cmp g h g2⟩
theorem totX (l : List UInt8) (b : Bool) : ∃ t l' b', Ps .X l b t l' b' := (tot (l.length + 1) l (Nat.lt_succ_self _)).2.2.2 b
theorem totS (l : List UInt8) (b : Bool) : ∃ t l' b', Ps .S l b t l' b' := (tot (l.length + 1) l (Nat.lt_succ_self _)).2.2.1 b
end Ar
