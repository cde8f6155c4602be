import Derived.Test.YtjmnhilkgjfllaaGreatDoorEvJ
import Derived.Laws.Tables
set_option linter.unusedVariables false
set_option linter.unusedSimpArgs false
namespace Ev
open Go

section
variable {P : Program} {w : World} {E : Env} {ρ : Mp} {a : A} {e : Operand → Value} {x y : Operand}

/-! ### parts filled in -/
theorem parts_ok : ∀ (l : List (Nat × Operand)) (r : List (Nat × W)), (∀ x ∈ l, OpRel ρ a e x.2) → partsOf a l = some r →
    All2 (fun (p : Nat × W) (q : Nat × Value) => p.1 = q.1 ∧ WRel ρ p.2 q.2) r (l.map fun x => (x.1, e x.2))
  | [], r, _, h => by simp only [partsOf, Option.some.injEq] at h; subst h; exact .nil
  | (i, x) :: l, r, ho, h => by
    simp only [partsOf] at h
    cases h1 : opW a x with
    | none => rw [h1] at h; cases h
    | some p =>
      rw [h1] at h
      simp only [] at h
      cases h2 : partsOf a l with
      | none => rw [h2] at h; cases h
      | some r' =>
        rw [h2] at h
        cases h
        exact .cons ⟨rfl, toW_rel (ho (i, x) (by simp)) h1⟩ (parts_ok l r' (fun y hy => ho y (by simp [hy])) h2)

theorem splice_get (cells vs : Array Value) (o : Nat) : ∀ k, (vs.zipIdx.foldl (fun cs (c, j) => cs.setIfInBounds (o + j) c) cells)[k]? =
    if k < cells.size then (if o ≤ k ∧ k < o + vs.size then vs[k - o]? else cells[k]?) else none := by
  have key : ∀ (l : List Value) (n : Nat) (cs : Array Value), ((l.zipIdx n).foldl (fun cs (p : Value × Nat) => cs.setIfInBounds (o + p.2) p.1) cs).size = cs.size ∧
      ∀ k, ((l.zipIdx n).foldl (fun cs (p : Value × Nat) => cs.setIfInBounds (o + p.2) p.1) cs)[k]? = if k < cs.size then (if o + n ≤ k ∧ k < o + n + l.length then l[k - (o + n)]? else cs[k]?) else none := by
    intro l
    induction l with
    | nil =>
      intro n cs
      refine ⟨rfl, fun k => ?_⟩
      simp only [List.zipIdx_nil, List.foldl_nil, List.length_nil]
      by_cases hk : k < cs.size
      · rw [if_pos hk, if_neg (by omega)]
      · rw [if_neg hk]; simp; omega
    | cons v l ih =>
      intro n cs
      simp only [List.zipIdx_cons, List.foldl_cons]
      obtain ⟨h1, h2⟩ := ih (n + 1) (cs.setIfInBounds (o + n) v)
      simp only [Array.size_setIfInBounds] at h1 h2
      refine ⟨h1, fun k => ?_⟩
      rw [h2 k]
      by_cases hk : k < cs.size
      · rw [if_pos hk, if_pos hk]
        simp only [List.length_cons]
        by_cases g : o + (n + 1) ≤ k ∧ k < o + (n + 1) + l.length
        · rw [if_pos g, if_pos (by omega), show k - (o + n) = (k - (o + (n + 1))) + 1 by omega]; rfl
        · rw [if_neg g]
          by_cases g2 : k = o + n
          · subst g2; rw [if_pos (by omega), Nat.sub_self, Array.getElem?_setIfInBounds, if_pos rfl, if_pos hk]; rfl
          · rw [if_neg (by omega), Array.getElem?_setIfInBounds, if_neg (Ne.symm g2)]
      · rw [if_neg hk, if_neg hk]
  intro k
  have h := (key vs.toList 0 cells).2 k
  rw [← Array.foldl_toList, Array.toList_zipIdx]
  simpa using h

theorem fill_ok (f : Nat → Option (Nat × Nat)) : ∀ (l : List (Nat × W)) (l' : List (Nat × Value)) (zs r : List C) (cells : Array Value),
    All2 (fun (p : Nat × W) (q : Nat × Value) => p.1 = q.1 ∧ WRel ρ p.2 q.2) l l' → LRel ρ zs cells.toList → fillL f zs l = some r →
    ∃ cells' : Array Value, Instr.fill f cells l' = some cells' ∧ LRel ρ r cells'.toList := by
  intro l
  induction l with
  | nil => intro l' zs r cells h hz hr; cases h; simp only [fillL, Option.some.injEq] at hr; subst hr; exact ⟨cells, rfl, hz⟩
  | cons p l ih =>
    intro l' zs r cells h hz hr
    obtain ⟨i, v⟩ := p
    cases h with
    | cons h1 h2 =>
      rename_i q l'
      obtain ⟨i', u⟩ := q
      obtain ⟨rfl, hv⟩ := h1
      simp only [fillL] at hr
      cases hf : f i with
      | none => rw [hf] at hr; cases hr
      | some on =>
        obtain ⟨o, n⟩ := on
        rw [hf] at hr
        simp only [lenA_zero] at hr
        cases hb : and (Nat.beq v.cells.length n) (Nat.ble (Nat.add o n) zs.length) with
        | false => rw [hb] at hr; cases hr
        | true =>
          rw [hb] at hr
          simp only [] at hr
          rw [Bool.and_eq_true] at hb
          have hn : v.cells.length = n := Nat.eq_of_beq_eq_true hb.1
          have hle : o + n ≤ zs.length := Nat.le_of_ble_eq_true hb.2
          have hvc := hv.cells
          have hul : u.cells.size = n := by have := hvc.length; simp at this; omega
          have hzl : zs.length = cells.size := by have := hz.length; simpa using this
          have hnew : LRel ρ (zs.take o ++ v.cells ++ zs.drop (Nat.add o n)) (u.cells.zipIdx.foldl (fun cs (c, j) => cs.setIfInBounds (o + j) c) cells).toList := by
            have hx : (u.cells.zipIdx.foldl (fun cs (c, j) => cs.setIfInBounds (o + j) c) cells).toList = cells.toList.take o ++ u.cells.toList ++ cells.toList.drop (o + n) := by
              apply List.ext_getElem?
              intro k
              rw [Array.getElem?_toList, splice_get]
              by_cases hk : k < cells.size
              · rw [if_pos hk]
                by_cases g1 : k < o
                · rw [if_neg (by omega), List.append_assoc, List.getElem?_append_left (by simp; omega), List.getElem?_take, if_pos g1]; simp
                · have ht : (cells.toList.take o).length = o := by simp; omega
                  by_cases g2 : k < o + n
                  · rw [if_pos (by omega), List.append_assoc, List.getElem?_append_right (by omega), List.getElem?_append_left (by simp; omega), ht]
                    simp
                  · rw [if_neg (by omega)]
                    have ht2 : (cells.toList.take o ++ u.cells.toList).length = o + n := by simp; omega
                    rw [List.getElem?_append_right (by omega), List.getElem?_drop, ht2, show o + n + (k - (o + n)) = k by omega]; simp
              · rw [if_neg hk]
                symm
                apply List.getElem?_eq_none
                simp; omega
            rw [hx]
            exact All2.append (All2.append (All2.take hz o) hvc) (All2.drop hz (o + n))
          obtain ⟨cells', g1, g2⟩ := ih l' _ r _ h2 hnew hr
          refine ⟨cells', ?_, g2⟩
          rw [Instr.fill]
          simp only [hf]
          rw [if_neg]
          · exact g1
          · simp only [Bool.or_eq_true, decide_eq_true_eq, not_or]
            omega

theorem zero_ok (hE : EnvOk E P) {t : TypeId} {i : TI} (hi : E.tab.get t = some i) {z : List C} (hz : i.zero = some z) :
    ∃ v, (∀ w : World, (zeroValue t).run P w = .ok v w) ∧ (∀ w, mkW i.isAgg z = some w → WRel ρ w v) ∧ LRel ρ z v.cells.toList := by
  obtain ⟨f, f1, _, _, _, _, _, f7⟩ := hE.tab t i hi
  obtain ⟨v, g1, g2⟩ := f7 z hz
  exact ⟨v, fun w => run_zero f1 g1, (g2 ρ).1, (g2 ρ).2⟩

theorem places_ok (hE : EnvOk E P) : ∀ (fs : List Field) (pl : List (Nat × Nat)), placesOf E fs = some pl → fs.mapM (fun f => (P.info? f.type).map fun i => (f.offset, i.size)) = some pl
  | [], pl, h => by simp only [placesOf, Option.some.injEq] at h; subst h; simp
  | f :: fs, pl, h => by
    simp only [placesOf] at h
    cases hi : E.tab.get f.type with
    | none => rw [hi] at h; cases h
    | some j =>
      rw [hi] at h
      simp only [] at h
      cases hr : placesOf E fs with
      | none => rw [hr] at h; cases h
      | some r =>
        rw [hr] at h
        cases h
        obtain ⟨g, g1, g2, _⟩ := hE.tab _ _ hi
        have := places_ok hE fs r hr
        simp [List.mapM_cons, g1, g2, this]

theorem build_ok (hE : EnvOk E P) {t : TypeId} {ps : Array (Nat × Operand)} (ho : ∀ x ∈ ps.toList, OpRel ρ a e x.2) {v : V} (hr : rBuild E a t ps.toList = some v) :
    ∃ u, (Instr.build t (ps.map fun (i, x) => (i, e x))).run P w = .ok u w ∧ VRel ρ v u := by
  unfold rBuild at hr
  cases h1 : partsOf a ps.toList with
  | none => rw [h1] at hr; cases hr
  | some l =>
    rw [h1] at hr
    simp only [] at hr
    obtain ⟨r, hq, rfl⟩ := obW hr
    clear hr
    have hps := parts_ok ps.toList l ho h1
    have hpl : (ps.map fun (i, x) => (i, e x)).toList = ps.toList.map fun x => (x.1, e x.2) := by simp
    unfold build at hq
    cases hi : E.tab.get t with
    | none => rw [hi] at hq; cases hq
    | some i =>
      rw [hi] at hq
      simp only [] at hq
      cases hz : i.zero with
      | none => rw [hz] at hq; cases hq
      | some z =>
        rw [hz] at hq
        simp only [] at hq
        obtain ⟨f, f1, f2, f3, f4, _, _, f7⟩ := hE.tab t i hi
        obtain ⟨zv, z1, z2⟩ := f7 z hz
        cases hu : i.und <;> rw [hu] at hq <;> simp only [] at hq <;> try (cases hq; done)
        case struct fs =>
          rw [hu] at f4
          cases hp : placesOf E fs.toList with
          | none => rw [hp] at hq; cases hq
          | some pl =>
            rw [hp] at hq
            simp only [] at hq
            cases hfl : fillL (fun k => pl[k]?) z l with
            | none => rw [hfl] at hq; cases hq
            | some r' =>
              rw [hfl] at hq
              cases hq
              obtain ⟨cells, g1, g2⟩ := fill_ok _ l _ z r' zv.cells hps (z2 ρ).2 hfl
              have hb : P.built t (ps.map fun (i, x) => (i, e x)).toList = some cells := by
                unfold Program.built
                rw [f1, f4]
                simp only [z1, places_ok hE _ _ hp, hpl]
                rw [← g1]; congr 1; funext k; simp
              exact ⟨.agg cells, run_build w t _ cells hb, ⟨cells, rfl, g2⟩⟩
        case array n el =>
          rw [hu] at f4
          cases hj : E.tab.get el with
          | none => rw [hj] at hq; cases hq
          | some j =>
            rw [hj] at hq
            simp only [] at hq
            obtain ⟨fe, e1, e2, _⟩ := hE.tab el j hj
            cases hfl : fillL (fun k => some (Nat.mul k j.size, j.size)) z l with
            | none => rw [hfl] at hq; cases hq
            | some r' =>
              rw [hfl] at hq
              cases hq
              obtain ⟨cells, g1, g2⟩ := fill_ok _ l _ z r' zv.cells hps (z2 ρ).2 hfl
              have hb : P.built t (ps.map fun (i, x) => (i, e x)).toList = some cells := by
                unfold Program.built
                rw [f1, f4]
                simp only [z1, e1, hpl, e2]
                exact g1
              exact ⟨.agg cells, run_build w t _ cells hb, ⟨cells, rfl, g2⟩⟩

/-! ### cutting -/
theorem bound_ok {v : Option Value} {c : Option C} {d y m : Nat} (hv : ∀ k, c = some k → ∃ u, v = some u ∧ CRel ρ k u) (hn : c = none → v = none) (h : bound c d y = some m) (code : BoundsCode) :
    (match v with | some u => Instr.sliceBound u y code | none => (pure d : Sem Nat)).run P w = .ok m w ∧ (c = none → m = d) ∧ (c ≠ none → m ≤ y) := by
  cases c with
  | none => rw [hn rfl]; simp only [bound, Option.some.injEq] at h; subst h; exact ⟨rfl, fun _ => rfl, fun h => absurd rfl h⟩
  | some k =>
    obtain ⟨u, rfl, hk⟩ := hv k rfl
    cases k <;> try (simp only [bound] at h; cases h; done)
    rename_i kk i
    have hu : u = .int kk i := hk
    subst hu
    obtain ⟨rfl, hm⟩ := inB_some h
    refine ⟨?_, (fun h => by simp at h), fun _ => by omega⟩
    have hc : (0 : Int) ≤ (m : Int) ∧ (m : Int) ≤ (y : Int) := by omega
    simp only [Instr.sliceBound, asIntOf, Sem.run_bind, Sem.run_pure, Result.andThen_ok, hc, and_self, if_true, Int.toNat_natCast]

theorem cut3_ok {lo hi mx : Option Value} {cl ch cm : Option C} {n c l h m : Nat} {isSlice : Bool} (hl : (∀ k, cl = some k → ∃ u, lo = some u ∧ CRel ρ k u) ∧ (cl = none → lo = none))
    (hh : (∀ k, ch = some k → ∃ u, hi = some u ∧ CRel ρ k u) ∧ (ch = none → hi = none)) (hm : (∀ k, cm = some k → ∃ u, mx = some u ∧ CRel ρ k u) ∧ (cm = none → mx = none))
    (hcm : cm ≠ none → ch ≠ none) (hcut : cut3 cl ch cm n c = some (l, h, m)) (hnc : n ≤ c) :
    (Instr.sliceBounds isSlice n c lo hi mx).run P w = .ok (l, h, m) w ∧ l ≤ h ∧ m ≤ c ∧ (ch = none → h = n) ∧ (cm = none → m = c) ∧ h ≤ m := by
  unfold cut3 at hcut
  cases h1 : bound cm c c with
  | none => rw [h1] at hcut; cases hcut
  | some m' =>
    rw [h1] at hcut
    simp only [] at hcut
    cases h2 : bound ch n m' with
    | none => rw [h2] at hcut; cases hcut
    | some h' =>
      rw [h2] at hcut
      simp only [] at hcut
      cases h3 : bound cl 0 h' with
      | none => rw [h3] at hcut; cases hcut
      | some l' =>
        rw [h3] at hcut
        cases hcut
        have hmle : m ≤ c := by
          cases cm with
          | none => simp only [bound, Option.some.injEq] at h1; omega
          | some k => exact (bound_ok (P := P) (w := w) (v := mx) hm.1 hm.2 h1 .index).2.2 (by simp)
        have hhle : h ≤ m := by
          cases ch with
          | none =>
            have : cm = none := by cases cm with | none => rfl | some _ => exact absurd rfl (hcm (by simp))
            subst this
            simp only [bound, Option.some.injEq] at h1 h2; omega
          | some k => exact (bound_ok (P := P) (w := w) (v := hi) hh.1 hh.2 h2 .index).2.2 (by simp)
        have hlle : l ≤ h := by
          cases cl with
          | none => simp only [bound, Option.some.injEq] at h3; omega
          | some k => exact (bound_ok (P := P) (w := w) (v := lo) hl.1 hl.2 h3 .index).2.2 (by simp)
        refine ⟨?_, hlle, hmle, fun hn => by rw [hn] at h2; simp only [bound, Option.some.injEq] at h2; exact h2.symm, fun hn => by rw [hn] at h1; simp only [bound, Option.some.injEq] at h1; exact h1.symm, hhle⟩
        unfold Instr.sliceBounds
        cases cm with
        | none =>
          rw [hm.2 rfl]
          have e1 : m = c := by simp only [bound, Option.some.injEq] at h1; exact h1.symm
          subst e1
          simp only [Sem.run_bind, Sem.run_pure, Result.andThen_ok]
          have b2 := (bound_ok (P := P) (w := w) (v := hi) hh.1 hh.2 h2 (if isSlice then .sliceAcap else .sliceAlen)).1
          have b3 := (bound_ok (P := P) (w := w) (v := lo) hl.1 hl.2 h3 .sliceB).1
          cases hi <;> cases lo <;> simp only [Sem.run_bind, Sem.run_pure, Result.andThen_ok, Option.isSome_none, Bool.false_eq_true, if_false] at b2 b3 ⊢
          · cases b2; cases b3; rfl
          · cases b2; rw [b3]; rfl
          · rw [b2]; cases b3; rfl
          · rw [b2]; simp only [Result.andThen_ok]; rw [b3]; rfl
        | some k =>
          obtain ⟨u, rfl, hk⟩ := hm.1 k rfl
          have b1 := (bound_ok (P := P) (w := w) (v := some u) hm.1 hm.2 h1 (if isSlice then .slice3Acap else .slice3Alen)).1
          cases ch with
          | none => exact absurd rfl (hcm (by simp))
          | some k2 =>
            obtain ⟨u2, rfl, hk2⟩ := hh.1 k2 rfl
            have b2 := (bound_ok (P := P) (w := w) (v := some u2) hh.1 hh.2 h2 .slice3B).1
            have b3 := (bound_ok (P := P) (w := w) (v := lo) hl.1 hl.2 h3 .slice3C).1
            simp only [Sem.run_bind, Result.andThen_ok] at b1 b2 ⊢
            rw [b1]
            simp only [Result.andThen_ok]
            rw [b2]
            cases lo <;> simp only [Sem.run_bind, Sem.run_pure, Result.andThen_ok, Option.isSome_some, if_true] at b3 ⊢ <;> (try rw [b3]) <;> (try simp only [Result.andThen_ok]) <;> (try (cases b3)) <;> rfl

end
end Ev
