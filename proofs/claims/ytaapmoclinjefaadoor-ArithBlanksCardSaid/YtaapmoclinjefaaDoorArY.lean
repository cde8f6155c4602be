import Derived.Test.YtaapmoclinjefaaDoorArX
/-! blanks around a text, and parentheses: the law -/
namespace Ar
def okSg (sg : List (List UInt8)) : Prop := ∀ x ∈ sg, x.length = 1 ∨ ∃ a, x = [a, 61]
theorem okU : okSg sgU := fun x hx => by
  have hx : x ∈ ([[45], [33], [40]] : List (List UInt8)) := hx
  simp only [List.mem_cons, List.not_mem_nil, or_false] at hx
  rcases hx with rfl | rfl | rfl <;> exact .inl rfl
theorem okC : okSg sgC := fun x hx => by
  have hx : x ∈ ([[41]] : List (List UInt8)) := hx
  simp only [List.mem_cons, List.not_mem_nil, or_false] at hx
  subst hx; exact .inl rfl
theorem okP : okSg sgP := fun x hx => by
  have hx : x ∈ ([[42], [47], [37]] : List (List UInt8)) := hx
  simp only [List.mem_cons, List.not_mem_nil, or_false] at hx
  rcases hx with rfl | rfl | rfl <;> exact .inl rfl
theorem okS : okSg sgS := fun x hx => by
  have hx : x ∈ ([[43], [45]] : List (List UInt8)) := hx
  simp only [List.mem_cons, List.not_mem_nil, or_false] at hx
  rcases hx with rfl | rfl <;> exact .inl rfl
theorem okX : okSg sgX := fun x hx => by
  have hx : x ∈ ([[60, 61], [62, 61], [61, 61], [33, 61], [60], [62]] : List (List UInt8)) := hx
  simp only [List.mem_cons, List.not_mem_nil, or_false] at hx
  rcases hx with rfl | rfl | rfl | rfl | rfl | rfl
  · exact .inr ⟨_, rfl⟩
  · exact .inr ⟨_, rfl⟩
  · exact .inr ⟨_, rfl⟩
  · exact .inr ⟨_, rfl⟩
  · exact .inl rfl
  · exact .inl rfl
theorem pre_app {m x w : List UInt8} {c : UInt8} (hm : m ≠ []) (hx : x.length = 1 ∨ ∃ a, x = [a, 61]) (hc : c ≠ 61) : pre (m ++ c :: w) x = pre m x := by
  unfold pre
  cases m with
  | nil => exact absurd rfl hm
  | cons m0 m =>
    rcases hx with hx | ⟨a, rfl⟩
    · rw [hx]; rfl
    · cases m with
      | nil =>
        show (([m0, c] : List UInt8) == [a, 61]) = (([m0] : List UInt8) == [a, 61])
        rw [Bool.eq_iff_iff]
        simp [hc]
      | cons m1 m => rfl
theorem takeF_app {w : List UInt8} {c : UInt8} (hc : c ≠ 61) {m : List UInt8} (hm : m ≠ []) : ∀ (sg : List (List UInt8)), okSg sg → takeF sg (m ++ c :: w) = ((takeF sg m).1, (takeF sg m).2 ++ c :: w)
  | [], _ => rfl
  | x :: sg, h => by
    have hx := pre_app (w := w) hm (h x (List.mem_cons_self ..)) hc
    have ih := takeF_app (w := w) hc hm sg fun y hy => h y (List.mem_cons_of_mem _ hy)
    unfold takeF
    rw [hx]
    by_cases hp : pre m x = true
    · rw [if_pos hp, if_pos hp, List.drop_append_of_le_length (pre_le hp)]
    · rw [if_neg hp, if_neg hp]
      exact ih
theorem dropBl_app1 : ∀ {l : List UInt8} (w : List UInt8), dropBl l ≠ [] → dropBl (l ++ w) = dropBl l ++ w
  | [], w, h => absurd rfl h
  | c :: l, w, h => by
    have ih := dropBl_app1 (l := l) w
    unfold dropBl at *
    rw [List.dropWhile_cons] at h
    rw [List.cons_append, List.dropWhile_cons, List.dropWhile_cons]
    split
    · rename_i hc
      rw [if_pos hc] at h
      exact ih h
    · rfl
theorem dropBl_app0 : ∀ {l : List UInt8} (w : List UInt8), dropBl l = [] → dropBl (l ++ w) = dropBl w
  | [], w, h => rfl
  | c :: l, w, h => by
    have ih := dropBl_app0 (l := l) w
    unfold dropBl at *
    rw [List.dropWhile_cons] at h
    rw [List.cons_append, List.dropWhile_cons]
    split
    · rename_i hc
      rw [if_pos hc] at h
      exact ih h
    · rename_i hc
      rw [if_neg hc] at h
      cases h
theorem takeF_nil {sg : List (List UInt8)} (h : okSg sg) : takeF sg [] = ([], []) := by
  induction sg with
  | nil => rfl
  | cons x sg ih =>
    unfold takeF
    have hx : pre [] x = false := by
      rcases h x (List.mem_cons_self ..) with hx | ⟨a, rfl⟩
      · cases x with
        | nil => cases hx
        | cons a x => rfl
      · rfl
    rw [hx]
    exact ih fun y hy => h y (List.mem_cons_of_mem _ hy)
theorem tk_app1 {sg : List (List UInt8)} (h : okSg sg) {w : List UInt8} {c : UInt8} (hc : c ≠ 61) {l : List UInt8} (hl : dropBl l ≠ []) : tk sg (l ++ c :: w) = ((tk sg l).1, (tk sg l).2 ++ c :: w) := by
  unfold tk
  rw [dropBl_app1 _ hl]
  exact takeF_app hc hl sg h
theorem tk_zero {sg : List (List UInt8)} (h : okSg sg) {l : List UInt8} (hl : dropBl l = []) : tk sg l = ([], []) := by
  unfold tk; rw [hl]; exact takeF_nil h
theorem tk_app0 {sg : List (List UInt8)} {w l : List UInt8} (hl : dropBl l = []) : tk sg (l ++ w) = takeF sg (dropBl w) := by
  unfold tk
  rw [dropBl_app0 _ hl]
theorem tk_ne {sg : List (List UInt8)} (h : okSg sg) {l : List UInt8} (h1 : (tk sg l).1 ≠ []) : dropBl l ≠ [] := fun e => h1 (by rw [tk_zero h e])
theorem tw_app {p : Nat → Bool} {c : UInt8} (hc : p c.toNat = false) (w : List UInt8) : ∀ l : List UInt8, tw p (l ++ c :: w) = tw p l
  | [] => by unfold tw; rw [List.nil_append, List.takeWhile_cons, if_neg (by rw [hc]; simp)]; rfl
  | a :: l => by
    have ih := tw_app hc w l
    unfold tw at *
    rw [List.cons_append, List.takeWhile_cons, List.takeWhile_cons, ih]
theorem tw_le' (p : Nat → Bool) : ∀ l, (tw p l).length ≤ l.length
  | [] => Nat.le_refl _
  | c :: l => by
    have := tw_le' p l
    unfold tw at this ⊢
    rw [List.takeWhile_cons]
    split <;> simp <;> omega
theorem bad_PL {t : Tr} {l : List UInt8} {t' : Tr} {l' : List UInt8} {b' : Bool} (h : Ps (.PL t) l true t' l' b') : b' = true := h.stick rfl
/-! blanks behind -/
def wB : List UInt8 := [32, 10]
theorem tkB {sg : List (List UInt8)} (h : okSg sg) (l : List UInt8) : tk sg (l ++ wB) = ((tk sg l).1, (tk sg l).2 ++ wB) ∨ (tk sg l = ([], []) ∧ tk sg (l ++ wB) = ([], [])) := by
  by_cases hl : dropBl l = []
  · right
    refine ⟨tk_zero h hl, ?_⟩
    rw [tk_app0 hl]
    exact takeF_nil h
  · exact .inl (tk_app1 h (by decide) hl)
theorem tkB1 {sg : List (List UInt8)} (h : okSg sg) (l : List UInt8) : (tk sg (l ++ wB)).1 = (tk sg l).1 := by
  rcases tkB h l with e | ⟨e1, e2⟩
  · rw [e]
  · rw [e1, e2]
theorem tkB2 {sg : List (List UInt8)} (h : okSg sg) (l : List UInt8) : dropBl (tk sg (l ++ wB)).2 = dropBl ((tk sg l).2 ++ wB) := by
  rcases tkB h l with e | ⟨e1, e2⟩
  · rw [e]
  · rw [e1, e2]; rfl
theorem tkB3 {sg : List (List UInt8)} (h : okSg sg) {l : List UInt8} (h1 : (tk sg l).1 ≠ []) : (tk sg (l ++ wB)).2 = (tk sg l).2 ++ wB := by
  rcases tkB h l with e | ⟨e1, e2⟩
  · rw [e]
  · rw [e1] at h1; exact absurd rfl h1
theorem tkB4 (p : Nat → Bool) (hp : p 32 = false) (l : List UInt8) : tw p (tk sgU (l ++ wB)).2 = tw p (tk sgU l).2 := by
  rcases tkB okU l with e | ⟨e1, e2⟩
  · rw [e]; exact tw_app (c := 32) hp _ _
  · rw [e1, e2]
theorem tkB5 (p : Nat → Bool) (l : List UInt8) : dropBl ((tk sgU (l ++ wB)).2.drop (tw p (tk sgU l).2).length) = dropBl ((tk sgU l).2.drop (tw p (tk sgU l).2).length ++ wB) := by
  rcases tkB okU l with e | ⟨e1, e2⟩
  · rw [e, List.drop_append_of_le_length (tw_le' p _)]
  · rw [e1, e2]; rfl
theorem Ps.blanks {k : Kd} {l : List UInt8} {b : Bool} {t : Tr} {l' : List UInt8} {b' : Bool} (h : Ps k l b t l' b') : ∃ t2 l2, Ps k (l ++ wB) b t2 l2 b' ∧ (b' = false → t2 = t ∧ dropBl l2 = dropBl (l' ++ wB)) := by
  induction h with
  | @sign l b t l' b' h1 h2 _ ih =>
    obtain ⟨t2, l2, g1, g2⟩ := ih
    rw [← tkB3 okU h1] at g1
    have e := tkB1 okU l
    rw [← e] at h1 h2
    refine ⟨_, _, .sign h1 h2 g1, fun hb => ?_⟩
    obtain ⟨rfl, g3⟩ := g2 hb
    exact ⟨by rw [e], g3⟩
  | @par l b t l1 b1 h1 _ ih =>
    obtain ⟨t2, l2, g1, g2⟩ := ih
    rw [← tkB3 okU (by rw [h1]; simp)] at g1
    have e := tkB1 okU l
    have h1' : (tk sgU (l ++ wB)).1 = [40] := e.trans h1
    have hp := Ps.par h1' g1
    cases b1 with
    | true => exact ⟨_, _, hp, fun hb => by cases hb⟩
    | false =>
      obtain ⟨rfl, g3⟩ := g2 rfl
      have e1 : tk sgC l2 = tk sgC (l1 ++ wB) := by unfold tk; rw [g3]
      rw [e1] at hp
      rw [tkB1 okC l1] at hp
      exact ⟨_, _, hp, fun _ => ⟨rfl, tkB2 okC l1⟩⟩
  | @dig l b h1 h2 =>
    have e := tkB4 digN (by decide) l
    have hp := Ps.dig (b := b) ((tkB1 okU l).trans h1) (by rw [e]; exact h2)
    rw [e] at hp
    exact ⟨_, _, hp, fun _ => ⟨rfl, tkB5 digN l⟩⟩
  | @nam l b h1 h2 h3 =>
    have e := tkB4 moreN (by decide) l
    have hp := Ps.nam (b := b) ((tkB1 okU l).trans h1) (by rw [tkB4 digN (by decide) l]; exact h2) (by rw [e]; exact h3)
    rw [e] at hp
    exact ⟨_, _, hp, fun _ => ⟨rfl, tkB5 moreN l⟩⟩
  | @namx l b h1 h2 h3 =>
    have e := tkB4 moreN (by decide) l
    exact ⟨_, _, Ps.namx (b := b) ((tkB1 okU l).trans h1) (by rw [tkB4 digN (by decide) l]; exact h2) (by rw [e]; exact h3), fun hb => by cases hb⟩
  | @prod l b t l1 b1 t' l' b' _ hq ih1 ih2 =>
    obtain ⟨t2, l2, g1, g2⟩ := ih1
    cases b1 with
    | true =>
      have hb := hq.stick rfl
      subst hb
      exact ⟨_, _, .prod g1 .pbad, fun hb => by cases hb⟩
    | false =>
      obtain ⟨rfl, g3⟩ := g2 rfl
      obtain ⟨t3, l3, g4, g5⟩ := ih2
      obtain ⟨m, g6, g7⟩ := g4.lead g3
      exact ⟨_, _, .prod g1 g6, fun hb => ⟨(g5 hb).1, g7.trans (g5 hb).2⟩⟩
  | pbad => exact ⟨_, _, .pbad, fun hb => by cases hb⟩
  | @pend t l h1 => exact ⟨_, _, .pend ((tkB1 okP l).trans h1), fun _ => ⟨rfl, tkB2 okP l⟩⟩
  | @pmore t l u l1 b1 t' l' b' h1 _ hq ih1 ih2 =>
    obtain ⟨t2, l2, g1, g2⟩ := ih1
    rw [← tkB3 okP h1] at g1
    have e := tkB1 okP l
    have h1' : (tk sgP (l ++ wB)).1 ≠ [] := by rw [e]; exact h1
    cases b1 with
    | true =>
      have hb := hq.stick rfl
      subst hb
      exact ⟨_, _, .pmore h1' g1 .pbad, fun hb => by cases hb⟩
    | false =>
      obtain ⟨rfl, g3⟩ := g2 rfl
      obtain ⟨t3, l3, g4, g5⟩ := ih2
      obtain ⟨m, g6, g7⟩ := g4.lead g3
      rw [← e] at g6
      exact ⟨_, _, .pmore h1' g1 g6, fun hb => ⟨(g5 hb).1, g7.trans (g5 hb).2⟩⟩
  | @sum l b t l1 b1 t' l' b' _ hq ih1 ih2 =>
    obtain ⟨t2, l2, g1, g2⟩ := ih1
    cases b1 with
    | true =>
      have hb := hq.stick rfl
      subst hb
      exact ⟨_, _, .sum g1 .sbad, fun hb => by cases hb⟩
    | false =>
      obtain ⟨rfl, g3⟩ := g2 rfl
      obtain ⟨t3, l3, g4, g5⟩ := ih2
      obtain ⟨m, g6, g7⟩ := g4.lead g3
      exact ⟨_, _, .sum g1 g6, fun hb => ⟨(g5 hb).1, g7.trans (g5 hb).2⟩⟩
  | sbad => exact ⟨_, _, .sbad, fun hb => by cases hb⟩
  | @send t l h1 => exact ⟨_, _, .send ((tkB1 okS l).trans h1), fun _ => ⟨rfl, tkB2 okS l⟩⟩
  | @smore t l u l1 b1 t' l' b' h1 _ hq ih1 ih2 =>
    obtain ⟨t2, l2, g1, g2⟩ := ih1
    rw [← tkB3 okS h1] at g1
    have e := tkB1 okS l
    have h1' : (tk sgS (l ++ wB)).1 ≠ [] := by rw [e]; exact h1
    cases b1 with
    | true =>
      have hb := hq.stick rfl
      subst hb
      exact ⟨_, _, .smore h1' g1 .sbad, fun hb => by cases hb⟩
    | false =>
      obtain ⟨rfl, g3⟩ := g2 rfl
      obtain ⟨t3, l3, g4, g5⟩ := ih2
      obtain ⟨m, g6, g7⟩ := g4.lead g3
      rw [← e] at g6
      exact ⟨_, _, .smore h1' g1 g6, fun hb => ⟨(g5 hb).1, g7.trans (g5 hb).2⟩⟩
  | @expr l b t l1 b1 _ h1 ih =>
    obtain ⟨t2, l2, g1, g2⟩ := ih
    cases b1 with
    | true =>
      by_cases hz : (tk sgX l2).1 = []
      · exact ⟨_, _, .expr g1 hz, fun hb => by cases hb⟩
      · obtain ⟨u, l3, b3, g4⟩ := totS (tk sgX l2).2 true
        have hb := g4.stick rfl
        subst hb
        exact ⟨_, _, .cmp g1 hz g4, fun hb => by cases hb⟩
    | false =>
      obtain ⟨rfl, g3⟩ := g2 rfl
      have e1 : tk sgX l2 = tk sgX (l1 ++ wB) := by unfold tk; rw [g3]
      have hp := Ps.expr g1 (by rw [e1, tkB1 okX l1]; exact h1)
      rw [e1] at hp
      exact ⟨_, _, hp, fun _ => ⟨rfl, tkB2 okX l1⟩⟩
  | @cmp l b t l1 b1 u l' b' _ h1 hq ih1 ih2 =>
    obtain ⟨t2, l2, g1, g2⟩ := ih1
    cases b1 with
    | true =>
      have hb := hq.stick rfl
      subst hb
      by_cases hz : (tk sgX l2).1 = []
      · exact ⟨_, _, .expr g1 hz, fun hb => by cases hb⟩
      · obtain ⟨u, l3, b3, g4⟩ := totS (tk sgX l2).2 true
        have hb := g4.stick rfl
        subst hb
        exact ⟨_, _, .cmp g1 hz g4, fun hb => by cases hb⟩
    | false =>
      obtain ⟨rfl, g3⟩ := g2 rfl
      obtain ⟨t3, l3, g4, g5⟩ := ih2
      have e1 : tk sgX l2 = tk sgX (l1 ++ wB) := by unfold tk; rw [g3]
      rw [← tkB3 okX h1, ← e1] at g4
      have e := tkB1 okX l1
      have hp := Ps.cmp g1 (by rw [e1, e]; exact h1) g4
      rw [e1, e] at hp
      exact ⟨_, _, hp, fun hb => ⟨by rw [(g5 hb).1], (g5 hb).2⟩⟩
end Ar
