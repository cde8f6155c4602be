import Derived.Test.YtaapmoclinjefaaDoorArY
/-! a text in parentheses -/
namespace Ar
def wP : List UInt8 := [41]
theorem tkP1 {sg : List (List UInt8)} (h : okSg sg) {l : List UInt8} (h1 : (tk sg l).1 ≠ []) : tk sg (l ++ wP) = ((tk sg l).1, (tk sg l).2 ++ wP) := tk_app1 h (by decide) (tk_ne h h1)
/-- where none of the signs is next -/
theorem tkP0 {sg : List (List UInt8)} (h : okSg sg) (hs : takeF sg wP = ([], wP)) {l : List UInt8} (h1 : (tk sg l).1 = []) : (tk sg (l ++ wP)).1 = [] ∧ dropBl (tk sg (l ++ wP)).2 = dropBl ((tk sg l).2 ++ wP) := by
  by_cases hl : dropBl l = []
  · rw [tk_app0 hl, tk_zero h hl, show dropBl wP = wP from rfl, hs]
    exact ⟨rfl, rfl⟩
  · have e : tk sg (l ++ wP) = ((tk sg l).1, (tk sg l).2 ++ wP) := tk_app1 h (by decide) hl
    rw [e]
    exact ⟨h1, rfl⟩
theorem tkPU {l : List UInt8} (h1 : (tk sgU l).1 = []) {p : Nat → Bool} (hne : tw p (tk sgU l).2 ≠ []) : tk sgU (l ++ wP) = ([], (tk sgU l).2 ++ wP) := by
  have hl : dropBl l ≠ [] := fun e => by rw [tk_zero okU e] at hne; exact hne rfl
  have e : tk sgU (l ++ wP) = ((tk sgU l).1, (tk sgU l).2 ++ wP) := tk_app1 okU (by decide) hl
  rw [e, h1]
theorem Ps.paren {k : Kd} {l : List UInt8} {b : Bool} {t : Tr} {l' : List UInt8} {b' : Bool} (h : Ps k l b t l' b') : b' = false → ∃ l2, Ps k (l ++ wP) b t l2 false ∧ dropBl l2 = dropBl (l' ++ wP) := by
  induction h with
  | @sign l b t l' b' h1 h2 _ ih =>
    intro hb
    obtain ⟨l2, g1, g2⟩ := ih hb
    have e := tkP1 okU h1
    have hp := Ps.sign (l := l ++ wP) (by rw [e]; exact h1) (by rw [e]; exact h2) (by rw [e]; exact g1)
    rw [e] at hp
    exact ⟨l2, hp, g2⟩
  | @par l b t l1 b1 h1 _ ih =>
    intro hb
    rw [Bool.or_eq_false_iff] at hb
    obtain ⟨l2, g1, g2⟩ := ih hb.1
    have hne : (tk sgC l1).1 ≠ [] := by simpa using hb.2
    have e := tkP1 okU (l := l) (by rw [h1]; simp)
    have hp := Ps.par (l := l ++ wP) (by rw [e]; exact h1) (by rw [e]; exact g1)
    have e1 : tk sgC l2 = tk sgC (l1 ++ wP) := by unfold tk; rw [g2]
    rw [e1, tkP1 okC hne] at hp
    refine ⟨_, ?_, rfl⟩
    have hf : ((tk sgC l1).1 == ([] : List UInt8)) = false := hb.2
    rw [hf] at hp
    exact hp
  | @dig l b h1 h2 =>
    intro hb
    subst hb
    have e := tkPU h1 h2
    have ew : tw digN (tk sgU (l ++ wP)).2 = tw digN (tk sgU l).2 := by rw [e]; exact tw_app (c := 41) (by decide) _ _
    have hp := Ps.dig (l := l ++ wP) (b := false) (by rw [e]) (by rw [ew]; exact h2)
    rw [ew] at hp
    refine ⟨_, hp, ?_⟩
    rw [e, List.drop_append_of_le_length (tw_le' digN _)]
  | @nam l b h1 h2 h3 =>
    intro hb
    subst hb
    have hne : tw moreN (tk sgU l).2 ≠ [] := fun e => by rw [e] at h3; cases h3
    have e := tkPU h1 hne
    have ew : tw moreN (tk sgU (l ++ wP)).2 = tw moreN (tk sgU l).2 := by rw [e]; exact tw_app (c := 41) (by decide) _ _
    have ed : tw digN (tk sgU (l ++ wP)).2 = tw digN (tk sgU l).2 := by rw [e]; exact tw_app (c := 41) (by decide) _ _
    have hp := Ps.nam (l := l ++ wP) (b := false) (by rw [e]) (by rw [ed]; exact h2) (by rw [ew]; exact h3)
    rw [ew] at hp
    refine ⟨_, hp, ?_⟩
    rw [e, List.drop_append_of_le_length (tw_le' moreN _)]
  | namx => intro hb; cases hb
  | @prod l b t l1 b1 t' l' b' _ hq ih1 ih2 =>
    intro hb
    subst hb
    obtain rfl : b1 = false := by
      cases b1 with
      | false => rfl
      | true => exact absurd (hq.stick rfl) (by simp)
    obtain ⟨l2, g1, g2⟩ := ih1 rfl
    obtain ⟨l3, g3, g4⟩ := ih2 rfl
    obtain ⟨m, g5, g6⟩ := g3.lead g2
    exact ⟨m, .prod g1 g5, g6.trans g4⟩
  | pbad => intro hb; cases hb
  | @pend t l h1 =>
    intro _
    obtain ⟨e1, e2⟩ := tkP0 okP rfl h1
    exact ⟨_, .pend e1, e2⟩
  | @pmore t l u l1 b1 t' l' b' h1 _ hq ih1 ih2 =>
    intro hb
    subst hb
    obtain rfl : b1 = false := by
      cases b1 with
      | false => rfl
      | true => exact absurd (hq.stick rfl) (by simp)
    obtain ⟨l2, g1, g2⟩ := ih1 rfl
    obtain ⟨l3, g3, g4⟩ := ih2 rfl
    obtain ⟨m, g5, g6⟩ := g3.lead g2
    have e := tkP1 okP h1
    have hp := Ps.pmore (t := t) (l := l ++ wP) (by rw [e]; exact h1) (by rw [e]; exact g1) (by rw [e]; exact g5)
    exact ⟨m, hp, g6.trans g4⟩
  | @sum l b t l1 b1 t' l' b' _ hq ih1 ih2 =>
    intro hb
    subst hb
    obtain rfl : b1 = false := by
      cases b1 with
      | false => rfl
      | true => exact absurd (hq.stick rfl) (by simp)
    obtain ⟨l2, g1, g2⟩ := ih1 rfl
    obtain ⟨l3, g3, g4⟩ := ih2 rfl
    obtain ⟨m, g5, g6⟩ := g3.lead g2
    exact ⟨m, .sum g1 g5, g6.trans g4⟩
  | sbad => intro hb; cases hb
  | @send t l h1 =>
    intro _
    obtain ⟨e1, e2⟩ := tkP0 okS rfl h1
    exact ⟨_, .send e1, e2⟩
  | @smore t l u l1 b1 t' l' b' h1 _ hq ih1 ih2 =>
    intro hb
    subst hb
    obtain rfl : b1 = false := by
      cases b1 with
      | false => rfl
      | true => exact absurd (hq.stick rfl) (by simp)
    obtain ⟨l2, g1, g2⟩ := ih1 rfl
    obtain ⟨l3, g3, g4⟩ := ih2 rfl
    obtain ⟨m, g5, g6⟩ := g3.lead g2
    have e := tkP1 okS h1
    have hp := Ps.smore (t := t) (l := l ++ wP) (by rw [e]; exact h1) (by rw [e]; exact g1) (by rw [e]; exact g5)
    exact ⟨m, hp, g6.trans g4⟩
  | @expr l b t l1 b1 _ h1 ih =>
    intro hb
    subst hb
    obtain ⟨l2, g1, g2⟩ := ih rfl
    have e : tk sgX l2 = tk sgX (l1 ++ wP) := by unfold tk; rw [g2]
    obtain ⟨e1, e2⟩ := tkP0 okX rfl h1
    have hp := Ps.expr g1 (by rw [e]; exact e1)
    rw [e] at hp
    exact ⟨_, hp, e2⟩
  | @cmp l b t l1 b1 u l' b' _ h1 hq ih1 ih2 =>
    intro hb
    subst hb
    obtain rfl : b1 = false := by
      cases b1 with
      | false => rfl
      | true => exact absurd (hq.stick rfl) (by simp)
    obtain ⟨l2, g1, g2⟩ := ih1 rfl
    obtain ⟨l3, g3, g4⟩ := ih2 rfl
    have e : tk sgX l2 = tk sgX (l1 ++ wP) := by unfold tk; rw [g2]
    have e1 := tkP1 okX h1
    have hp := Ps.cmp g1 (by rw [e, e1]; exact h1) (by rw [e, e1]; exact g3)
    rw [e, e1] at hp
    exact ⟨l3, hp, g4⟩
/-! the two laws -/
theorem blanks_around {l : List UInt8} {t : Tr} {l' : List UInt8} {b' : Bool} (h : Ps .X l false t l' b') : ∃ t2 l2, Ps .X ([32, 9] ++ l ++ [32, 10]) false t2 l2 b' ∧ (b' = false → t2 = t ∧ (dropBl l2 = [] ↔ dropBl l' = [])) := by
  obtain ⟨t2, l2, g1, g2⟩ := h.blanks
  have e : dropBl ([32, 9] ++ l ++ [32, 10]) = dropBl (l ++ wB) := rfl
  obtain ⟨m, g3, g4⟩ := g1.lead e
  refine ⟨t2, m, g3, fun hb => ?_⟩
  obtain ⟨rfl, g5⟩ := g2 hb
  refine ⟨rfl, ?_⟩
  rw [g4, g5]
  by_cases hz : dropBl l' = []
  · rw [dropBl_app0 _ hz]; exact ⟨fun _ => hz, fun _ => rfl⟩
  · rw [dropBl_app1 _ hz]
    exact ⟨fun h => absurd h (by simp [wB]), fun h => absurd h hz⟩
theorem parens {l : List UInt8} {t : Tr} {l' : List UInt8} (h : Ps .X l false t l' false) (hz : dropBl l' = []) : Ps .X ([40] ++ l ++ [41]) false t [] false := by
  obtain ⟨l2, g1, g2⟩ := h.paren rfl
  rw [dropBl_app0 _ hz] at g2
  have e0 : tk sgU ([40] ++ l ++ [41]) = ([40], l ++ wP) := rfl
  have e1 : tk sgC l2 = ([41], []) := by unfold tk; rw [g2]; rfl
  have hU : Ps .U ([40] ++ l ++ [41]) false t [] false := by
    have hp := Ps.par (l := [40] ++ l ++ [41]) (b := false) (t := t) (by rw [e0]) (by rw [e0]; exact g1)
    rw [e1] at hp
    exact hp
  have hP : Ps .P ([40] ++ l ++ [41]) false t [] false := .prod hU (.pend rfl)
  have hS : Ps .S ([40] ++ l ++ [41]) false t [] false := .sum hP (.send rfl)
  exact .expr hS rfl
end Ar
