import Derived.Test.YtaapmoclinjefaaDoorArRh
namespace Ar
open Go Go.Proofs Ev Go.Lib Nu
set_option linter.unusedVariables false
set_option linter.unusedSimpArgs false
theorem takeF_suf : ∀ (sg : List (List UInt8)) (l : List UInt8), (takeF sg l).2 <:+ l
  | [], l => List.suffix_refl _
  | x :: xs, l => by
    unfold takeF
    split
    · exact List.drop_suffix _ _
    · exact takeF_suf xs l
theorem tk_suf (sg : List (List UInt8)) (l : List UInt8) : (tk sg l).2 <:+ l := List.IsSuffix.trans (takeF_suf sg _) (dropBl_suf l)
theorem Rk.suf {vs : List (List UInt8 × List UInt8)} {k : Rd} {l : List UInt8} {f m : Bool} {n : Int} {l' : List UInt8} {f' m' : Bool} (h : Rk vs k l f m n l' f' m') : l' <:+ l := by
  induction h with
  | minus _ _ ih => exact ih.trans (tk_suf _ _)
  | bang _ _ ih => exact ih.trans (tk_suf _ _)
  | par _ _ ih =>
    refine List.IsSuffix.trans ?_ (ih.trans (tk_suf _ _))
    split
    · exact dropBl_suf _
    · exact tk_suf _ _
  | dig => exact suf_drop2 (tk_suf _ _) _
  | nam => exact suf_drop2 (tk_suf _ _) _
  | namx => exact suf_drop2 (tk_suf _ _) _
  | prod _ _ ih1 ih2 => exact ih2.trans ih1
  | pbad => exact dropBl_suf _
  | pend => exact tk_suf _ _
  | pmore _ _ _ ih1 ih2 => exact ih2.trans (ih1.trans (tk_suf _ _))
  | sum _ _ ih1 ih2 => exact ih2.trans ih1
  | sbad => exact dropBl_suf _
  | send => exact tk_suf _ _
  | smore _ _ _ ih1 ih2 => exact ih2.trans (ih1.trans (tk_suf _ _))
  | xbad _ ih => exact (dropBl_suf _).trans ih
  | expr _ _ ih => exact (tk_suf _ _).trans ih
  | cmp _ _ _ ih1 ih2 => exact ih2.trans ((tk_suf _ _).trans ih1)
theorem op_in {op : List UInt8} {a b : Int} (ha : inR a) : inR (opR op a b).1 := by
  unfold opR
  split
  · exact wr_inR _
  split
  · exact wr_inR _
  split
  · exact wr_inR _
  split
  · unfold divR
    split
    · exact in0
    split
    · split
      · exact in0
      · exact wr_inR _
    split
    · exact tmod_in ha
    · exact wr_inR _
  split
  · unfold divR
    split
    · exact in0
    split
    · split
      · exact in0
      · exact wr_inR _
    split
    · exact tmod_in ha
    · exact wr_inR _
  repeat' split
  all_goals (show inR (yesF _); unfold yesF; split; exact in1; exact in0)
def InK (k : Rd) : Prop := match k with
  | .PL a => inR a
  | .SL a => inR a
  | _ => True
theorem Rk.in {vs : List (List UInt8 × List UInt8)} {k : Rd} {l : List UInt8} {f m : Bool} {n : Int} {l' : List UInt8} {f' m' : Bool} (h : Rk vs k l f m n l' f' m') : InK k → inR n := by
  induction h with
  | minus => intro _; exact wr_inR _
  | bang => intro _; unfold yesF; split; exact in1; exact in0
  | par _ _ ih => intro _; exact ih trivial
  | dig => intro _; exact getD_in
  | nam => intro _; exact valV_in _ _
  | namx => intro _; exact in0
  | prod _ _ ih1 ih2 => intro _; exact ih2 (ih1 trivial)
  | pbad => exact id
  | pend => exact id
  | pmore _ _ _ ih1 ih2 => intro h; exact ih2 (op_in h)
  | sum _ _ ih1 ih2 => intro _; exact ih2 (ih1 trivial)
  | sbad => exact id
  | send => exact id
  | smore _ _ _ ih1 ih2 => intro h; exact ih2 (op_in h)
  | xbad _ ih => intro _; exact ih trivial
  | expr _ _ ih => intro _; exact ih trivial
  | cmp _ _ _ ih1 ih2 => intro _; exact op_in (ih1 trivial)
theorem Rk.det {vs : List (List UInt8 × List UInt8)} {k : Rd} {l : List UInt8} {f m : Bool} {n : Int} {l' : List UInt8} {f' m' : Bool} (h : Rk vs k l f m n l' f' m') : ∀ {n2 l2 f2 m2}, Rk vs k l f m n2 l2 f2 m2 → n2 = n ∧ l2 = l' ∧ f2 = f' ∧ m2 = m' := by
  induction h with
  | minus h1 _ ih =>
    intro n2 l2 f2 m2 h
    cases h with
    | minus _ h' => obtain ⟨rfl, rfl, rfl, rfl⟩ := ih h'; exact ⟨rfl, rfl, rfl, rfl⟩
    | bang h' => rw [h1] at h'; cases h'
    | par h' => rw [h1] at h'; cases h'
    | dig h' => rw [h1] at h'; cases h'
    | nam h' => rw [h1] at h'; cases h'
    | namx h' => rw [h1] at h'; cases h'
  | bang h1 _ ih =>
    intro n2 l2 f2 m2 h
    cases h with
    | minus h' => rw [h1] at h'; cases h'
    | bang _ h' => obtain ⟨rfl, rfl, rfl, rfl⟩ := ih h'; exact ⟨rfl, rfl, rfl, rfl⟩
    | par h' => rw [h1] at h'; cases h'
    | dig h' => rw [h1] at h'; cases h'
    | nam h' => rw [h1] at h'; cases h'
    | namx h' => rw [h1] at h'; cases h'
  | par h1 _ ih =>
    intro n2 l2 f2 m2 h
    cases h with
    | minus h' => rw [h1] at h'; cases h'
    | bang h' => rw [h1] at h'; cases h'
    | par _ h' => obtain ⟨rfl, rfl, rfl, rfl⟩ := ih h'; exact ⟨rfl, rfl, rfl, rfl⟩
    | dig h' => rw [h1] at h'; cases h'
    | nam h' => rw [h1] at h'; cases h'
    | namx h' => rw [h1] at h'; cases h'
  | dig h1 h2 =>
    intro n2 l2 f2 m2 h
    cases h with
    | minus h' => rw [h1] at h'; cases h'
    | bang h' => rw [h1] at h'; cases h'
    | par h' => rw [h1] at h'; cases h'
    | dig => exact ⟨rfl, rfl, rfl, rfl⟩
    | nam _ h' => exact absurd h' h2
    | namx _ h' => exact absurd h' h2
  | nam h1 h2 h3 =>
    intro n2 l2 f2 m2 h
    cases h with
    | minus h' => rw [h1] at h'; cases h'
    | bang h' => rw [h1] at h'; cases h'
    | par h' => rw [h1] at h'; cases h'
    | dig _ h' => exact absurd h2 h'
    | nam => exact ⟨rfl, rfl, rfl, rfl⟩
    | namx _ _ h' => rw [h3] at h'; cases h'
  | namx h1 h2 h3 =>
    intro n2 l2 f2 m2 h
    cases h with
    | minus h' => rw [h1] at h'; cases h'
    | bang h' => rw [h1] at h'; cases h'
    | par h' => rw [h1] at h'; cases h'
    | dig _ h' => exact absurd h2 h'
    | nam _ _ h' => rw [h3] at h'; cases h'
    | namx => exact ⟨rfl, rfl, rfl, rfl⟩
  | prod _ _ ih1 ih2 =>
    intro n2 l2 f2 m2 h
    cases h with
    | prod h' h'' => obtain ⟨rfl, rfl, rfl, rfl⟩ := ih1 h'; exact ih2 h''
  | pbad =>
    intro n2 l2 f2 m2 h
    cases h with
    | pbad => exact ⟨rfl, rfl, rfl, rfl⟩
  | pend h1 =>
    intro n2 l2 f2 m2 h
    cases h with
    | pend => exact ⟨rfl, rfl, rfl, rfl⟩
    | pmore h' => exact absurd h1 h'
  | pmore h1 _ _ ih1 ih2 =>
    intro n2 l2 f2 m2 h
    cases h with
    | pend h' => exact absurd h' h1
    | pmore _ h' h'' => obtain ⟨rfl, rfl, rfl, rfl⟩ := ih1 h'; exact ih2 h''
  | sum _ _ ih1 ih2 =>
    intro n2 l2 f2 m2 h
    cases h with
    | sum h' h'' => obtain ⟨rfl, rfl, rfl, rfl⟩ := ih1 h'; exact ih2 h''
  | sbad =>
    intro n2 l2 f2 m2 h
    cases h with
    | sbad => exact ⟨rfl, rfl, rfl, rfl⟩
  | send h1 =>
    intro n2 l2 f2 m2 h
    cases h with
    | send => exact ⟨rfl, rfl, rfl, rfl⟩
    | smore h' => exact absurd h1 h'
  | smore h1 _ _ ih1 ih2 =>
    intro n2 l2 f2 m2 h
    cases h with
    | send h' => exact absurd h' h1
    | smore _ h' h'' => obtain ⟨rfl, rfl, rfl, rfl⟩ := ih1 h'; exact ih2 h''
  | xbad _ ih =>
    intro n2 l2 f2 m2 h
    cases h with
    | xbad h' => obtain ⟨rfl, rfl, _, rfl⟩ := ih h'; exact ⟨rfl, rfl, rfl, rfl⟩
    | expr h' => have := ih h'; cases this.2.2.1
    | cmp h' => have := ih h'; cases this.2.2.1
  | expr _ h1 ih =>
    intro n2 l2 f2 m2 h
    cases h with
    | xbad h' => have := ih h'; cases this.2.2.1
    | expr h' => obtain ⟨rfl, rfl, _, rfl⟩ := ih h'; exact ⟨rfl, rfl, rfl, rfl⟩
    | cmp h' h'' => obtain ⟨rfl, rfl, _, rfl⟩ := ih h'; exact absurd h1 h''
  | cmp _ h1 _ ih1 ih2 =>
    intro n2 l2 f2 m2 h
    cases h with
    | xbad h' => have := ih1 h'; cases this.2.2.1
    | expr h' h'' => obtain ⟨rfl, rfl, _, rfl⟩ := ih1 h'; exact absurd h'' h1
    | cmp h' _ h'' =>
      obtain ⟨rfl, rfl, _, rfl⟩ := ih1 h'
      obtain ⟨rfl, rfl, rfl, rfl⟩ := ih2 h''
      exact ⟨rfl, rfl, rfl, rfl⟩
def RR (k : Rd) (n : Nat) (ds : List D) (ps : List PW) (v : PV × List D) : Prop := ∃ s l d m vs x l' f' m', ds = rkL s l d false m ∧ l <:+ s ∧ s.length ≤ 900 ∧ IsV d vs ∧ okVs vs ∧ l.length < n ∧ ps = [] ∧ Rk vs k l false m x l' f' m' ∧ v = (.w (.c (.int .i64 x)), rkL s l' d f' m')
theorem rr_u {k : Rd} {n : Nat} {ds : List D} {ps : List PW} {v v' : PV × List D} (h : RR k n ds ps v) (h' : RR k n ds ps v') : v' = v := by
  obtain ⟨s, l, d, m, vs, x, l', f', m', rfl, hl, _, hv, _, _, rfl, hp, rfl⟩ := h
  obtain ⟨s2, l2, d2, m2, vs2, x2, l2', f2', m2', h1, hl2, _, hv2, _, _, _, hp2, rfl⟩ := h'
  obtain ⟨rfl, rfl, rfl, _, rfl⟩ := rkL_inj hl hl2 h1
  obtain rfl := isV_u hv hv2
  obtain ⟨rfl, rfl, rfl, rfl⟩ := hp.det hp2
  rfl
theorem callR_R {X : T Ext} {g : Nat} {k : Rd} {n : Nat} (h : (En X).ext.get g = some (.me (ofM (RR k n)) [])) {s l : List UInt8} {d : D} {m : Bool} {vs : List (List UInt8 × List UInt8)} (hl : l <:+ s) (hs : s.length ≤ 900) (hv : IsV d vs) (ho : okVs vs) (hn : l.length < n)
    {x : Int} {l' : List UInt8} {f' m' : Bool} (hp : Rk vs k l false m x l' f' m') {b : Nat} {S : St} (hr : LRow S b (cellsD (rkL s l d false m))) :
    ∃ S2, CallR (En X) g [.c (.ptr b 0)] S (.w (.c (.int .i64 x))) S2 ∧ LRow S2 b (cellsD (rkL s l' d f' m')) ∧ S2.nx = S.nx ∧ ∀ x, x ≠ b → S2.h.get x = S.h.get x :=
  have hR : RR k n (rkL s l d false m) [] (.w (.c (.int .i64 x)), rkL s l' d f' m') := ⟨s, l, d, m, vs, x, l', f', m', rfl, hl, hs, hv, ho, hn, rfl, hp, rfl⟩
  callR_me (ps := []) (pv := .w (.c (.int .i64 x))) h hr (rk_plain (isV_plain hv)) rfl hR (fun v h => rr_u hR h) rfl
theorem dropBl_idem (l : List UInt8) : dropBl (dropBl l) = dropBl l := by
  cases h : dropBl l with
  | nil => rfl
  | cons c r =>
    have hc : isBl c = false := by
      have := List.head_dropWhile_not isBl (l := l) (by
        intro e
        have h : l.dropWhile isBl = c :: r := h
        rw [e] at h; cases h)
      have h : l.dropWhile isBl = c :: r := h
      simp only [h, List.head_cons] at this
      exact this
    unfold dropBl
    rw [List.dropWhile_cons, if_neg (by rw [hc]; simp)]
theorem tkU_cases (l : List UInt8) : (pre (dropBl l) [45] = true ∧ tk sgU l = ([45], (dropBl l).drop 1)) ∨ (pre (dropBl l) [45] = false ∧ pre (dropBl l) [33] = true ∧ tk sgU l = ([33], (dropBl l).drop 1)) ∨
    (pre (dropBl l) [45] = false ∧ pre (dropBl l) [33] = false ∧ pre (dropBl l) [40] = true ∧ tk sgU l = ([40], (dropBl l).drop 1)) ∨ (pre (dropBl l) [45] = false ∧ pre (dropBl l) [33] = false ∧ pre (dropBl l) [40] = false ∧ tk sgU l = ([], dropBl l)) := by
  unfold tk sgU takeF takeF takeF takeF
  cases pre (dropBl l) [45] with
  | true => exact .inl ⟨rfl, rfl⟩
  | false => cases pre (dropBl l) [33] with
    | true => exact .inr (.inl ⟨rfl, rfl, rfl⟩)
    | false => cases pre (dropBl l) [40] with
      | true => exact .inr (.inr (.inl ⟨rfl, rfl, rfl, rfl⟩))
      | false => exact .inr (.inr (.inr ⟨rfl, rfl, rfl, rfl⟩))
theorem tkC_cases (l : List UInt8) : (pre (dropBl l) [41] = true ∧ tk sgC l = ([41], (dropBl l).drop 1)) ∨ (pre (dropBl l) [41] = false ∧ tk sgC l = ([], dropBl l)) := by
  unfold tk sgC takeF takeF
  cases pre (dropBl l) [41] with
  | true => exact .inl ⟨rfl, rfl⟩
  | false => exact .inr ⟨rfl, rfl⟩
end Ar
