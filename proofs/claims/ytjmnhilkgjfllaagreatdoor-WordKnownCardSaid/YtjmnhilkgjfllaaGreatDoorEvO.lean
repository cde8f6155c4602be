import Derived.Test.YtjmnhilkgjfllaaGreatDoorEvN
import Derived.Laws.MakeOwn
set_option linter.unusedVariables false
set_option linter.unusedSimpArgs false
namespace Ev
open Go

section
variable {P : Program} {w : World} {E : Env} {ρ : Mp} {a : A} {e : Operand → Value} {x y : Operand}

theorem elemTI_some (hE : EnvOk E P) {t : TypeId} {j : TI} (h : elemTI E t = some j) : ∃ el f, P.underlying t = some (.slice el) ∧ E.tab.get el = some j ∧ P.info? el = some f ∧ f.size = j.size ∧ f.bytes = j.bytes ∧ 1 ≤ j.size ∧ 1 ≤ j.bytes ∧ ∃ z, j.zero = some z := by
  unfold elemTI at h
  cases hi : E.tab.get t with
  | none => rw [hi] at h; cases h
  | some i =>
    rw [hi] at h
    simp only [] at h
    cases hu : i.und <;> rw [hu] at h <;> simp only [] at h <;> try (cases h; done)
    rename_i el
    cases hj : E.tab.get el with
    | none => rw [hj] at h; cases h
    | some j' =>
      rw [hj] at h
      simp only [] at h
      cases hb : and (Nat.ble 1 j'.size) (Nat.ble 1 j'.bytes) with
      | false => rw [hb] at h; cases h
      | true =>
        rw [hb] at h
        simp only [] at h
        cases hz : j'.zero with
        | none => rw [hz] at h; cases h
        | some z =>
        rw [hz] at h
        cases h
        rw [Bool.and_eq_true] at hb
        obtain ⟨f, _, _, _, f4, _⟩ := hE.tab t i hi
        obtain ⟨g, g1, g2, g3, _⟩ := hE.tab el j hj
        exact ⟨el, g, by rw [f4, hu], hj, g1, g2, g3, Nat.le_of_ble_eq_true hb.1, Nat.le_of_ble_eq_true hb.2, z, hz⟩

/-- a new row -/
theorem row_new {l : List C} {cells : Array Value} {el : TypeId} {fz : Nat × Nat} {c : Nat} (hl : LRel ρ l (cells.toList.take l.length)) (hle : l.length ≤ cells.size) (hz : ∀ j, j ≤ cells.size → ¬ (fz.1 ≤ j ∧ j < fz.2)) :
    BlkRel ρ ⟨c, 0, cells.size, l.length⟩ (.row (mkRow l)) (.cells cells el fz) := by
  refine ⟨cells, el, fz, rfl, ⟨rfl, by show lenA l 0 = l.length; rw [lenA_zero], ?_, Nat.zero_le _, ?_, fun _ j _ h => hz j (Nat.le_of_lt h), fun _ _ => hz _ (Nat.le_refl _)⟩⟩
  · show 0 + lenA l 0 ≤ cells.size
    rw [lenA_zero]; omega
  · intro i x hi hx
    have hi' : i < l.length := by have : i < lenA l 0 := hi; rwa [lenA_zero] at this
    have hx' : l[i]? = some x := by have : (T.ofL l).get i = some x := hx; rwa [T.get_ofL] at this
    obtain ⟨v, h1, h2⟩ := hl.get hx'
    refine ⟨v, ?_, h2⟩
    rw [List.getElem?_take, if_pos hi'] at h1
    simpa using h1

/-- a new row that may bear the mark of a text's bytes -/
theorem row_newM {l : List C} {cells : Array Value} {el : TypeId} {fz : Nat × Nat} {c id : Nat} (hl : LRel ρ l (cells.toList.take l.length)) (hle : l.length ≤ cells.size) (hz : ∀ j, j < cells.size → ¬ (fz.1 ≤ j ∧ j < fz.2)) :
    BlkRel ρ ⟨c, 0, cells.size, l.length⟩ (.row { mkRow l with anc := [id] }) (.cells cells el fz) := by
  refine ⟨cells, el, fz, rfl, ⟨rfl, by show lenA l 0 = l.length; rw [lenA_zero], ?_, Nat.zero_le _, ?_, fun _ j _ h => hz j h, fun _ h => by cases h⟩⟩
  · show 0 + lenA l 0 ≤ cells.size
    rw [lenA_zero]; omega
  · intro i x hi hx
    have hi' : i < l.length := by have : i < lenA l 0 := hi; rwa [lenA_zero] at this
    have hx' : l[i]? = some x := by have : (T.ofL l).get i = some x := hx; rwa [T.get_ofL] at this
    obtain ⟨v, h1, h2⟩ := hl.get hx'
    refine ⟨v, ?_, h2⟩
    rw [List.getElem?_take, if_pos hi'] at h1
    simpa using h1

theorem row_new' {l : List C} {cells : Array Value} {el : TypeId} {c : Nat} (hl : LRel ρ l cells.toList) : BlkRel ρ ⟨c, 0, cells.size, l.length⟩ (.row (mkRow l)) (.cells cells el) := by
  have h := hl.length
  simp at h
  exact row_new (by rw [h]; rw [← Array.length_toList, List.take_length]; exact hl) (by omega) (fun j _ => by simp)

/-- what an operation that makes a block leaves -/
def NewOk (P : Program) (ρ : Mp) (id : Nat) (w : World) (r : Result Next) (v : V) (b : Blk) : Prop :=
  ∃ u w' p ob, r = .ok (.value u) w' ∧ (w'.heap = w.heap.push ob ∧ Same w w') ∧ p.c = w.heap.size ∧ BlkRel ρ p b ob ∧ VRel (ρ.put id p) v u

theorem bi2 {s : Sem Value} {u : Value} {w' : World} (h : s.run P w = .ok u w') : (do pure (Next.value (← s)) : Sem Next).run P w = .ok (.value u) w' := by
  simp only [Sem.run_bind, h, Result.andThen_ok, Sem.run_pure]

theorem run_newVar (t : TypeId) (v : Value) : (do pure (.pointer (some (← newVar t v))) : Sem Value).run P w = .ok (.pointer (some ⟨w.heap.size, 0, none⟩)) { w with heap := w.heap.push (.cells v.cells t) } := by
  simp [newVar, newRow]

theorem box_ok (hx : OpRel ρ a e x) {t : TypeId} {id : Nat} {v : V} {b : Blk} (hr : nBox a x id = some (v, b)) : NewOk P ρ id w ((do pure (Next.value (← Instr.box t (e x))) : Sem Next).run P w) v b := by
  unfold nBox at hr
  cases h1 : opW a x with
  | none => rw [h1] at hr; cases hr
  | some y =>
    rw [h1] at hr
    cases hr
    have hy := (toW_rel hx h1).cells
    refine ⟨_, _, ⟨w.heap.size, 0, _, _⟩, _, bi2 (run_newVar t (e x)), ⟨rfl, rfl, rfl⟩, rfl, row_new' hy, ?_⟩
    exact ⟨_, if_pos rfl, rfl⟩

theorem alloc_ok (hE : EnvOk E P) {t : TypeId} {id : Nat} {v : V} {b : Blk} (hr : nAlloc E t id = some (v, b)) : NewOk P ρ id w ((do pure (Next.value (← Instr.alloc t true (.tuple #[]))) : Sem Next).run P w) v b := by
  unfold nAlloc at hr
  cases hi : E.tab.get t with
  | none => rw [hi] at hr; cases hr
  | some i =>
    rw [hi] at hr
    simp only [] at hr
    cases hz : i.zero with
    | none => rw [hz] at hr; cases hr
    | some z =>
      rw [hz] at hr
      cases hr
      obtain ⟨zv, z1, _, z3⟩ := zero_ok (ρ := ρ) hE hi hz
      have hrun : (Instr.alloc t true (.tuple #[])).run P w = .ok (.pointer (some ⟨w.heap.size, 0, none⟩)) { w with heap := w.heap.push (.cells zv.cells t) } := by
        unfold Instr.alloc
        simp only [Sem.run_bind, z1, Result.andThen_ok]
        exact run_newVar t zv
      exact ⟨_, _, ⟨w.heap.size, 0, _, _⟩, _, bi2 hrun, ⟨rfl, rfl, rfl⟩, rfl, row_new' z3, ⟨_, if_pos rfl, rfl⟩⟩

theorem rep_rel {z : List C} {zs : Array Value} (h : LRel ρ z zs.toList) (hp : 0 < zs.size) : ∀ c n, n = c * zs.size → LRel ρ (rep c z) ((Array.range n).map (zs[· % zs.size]!)).toList := by
  intro c
  induction c with
  | zero => intro n hn; simp at hn; subst hn; simp [rep]; exact (.nil : LRel ρ [] [])
  | succ c ih =>
    intro n hn
    have hl := h.length
    simp at hl
    have : ((Array.range n).map (zs[· % zs.size]!)).toList = zs.toList ++ ((Array.range (c * zs.size)).map (zs[· % zs.size]!)).toList := by
      apply List.ext_getElem?
      intro k
      rw [List.getElem?_append]
      simp only [Array.toList_map, Array.toList_range, List.getElem?_map, Array.length_toList, Array.getElem?_toList]
      by_cases hk : k < zs.size
      · rw [if_pos hk]
        have hkn : k < n := by rw [hn, Nat.succ_mul]; omega
        rw [List.getElem?_range hkn]
        simp [Nat.mod_eq_of_lt hk, hk]
      · rw [if_neg hk]
        by_cases hkn : k < n
        · have hk2 : k - zs.size < c * zs.size := by rw [hn, Nat.succ_mul] at hkn; omega
          rw [List.getElem?_range hkn, List.getElem?_range hk2]
          simp only [Option.map_some]
          congr 2
          rw [Nat.mod_eq_sub_mod (by omega)]
        · have hk2 : ¬ k - zs.size < c * zs.size := by rw [hn, Nat.succ_mul] at hkn; omega
          rw [List.getElem?_eq_none (by simp; omega), List.getElem?_eq_none (by simp; omega)]
    rw [this]
    exact All2.append h (ih _ rfl)

theorem rep_len (c : Nat) (z : List C) : (rep c z).length = c * z.length := by
  induction c with
  | zero => simp [rep]
  | succ c ih => simp [rep, ih, Nat.succ_mul]; omega

theorem fillL_len (f : Nat → Option (Nat × Nat)) : ∀ (l : List (Nat × W)) (zs r : List C), fillL f zs l = some r → r.length = zs.length := by
  intro l
  induction l with
  | nil => intro zs r h; simp only [fillL, Option.some.injEq] at h; rw [h]
  | cons p l ih =>
    intro zs r h
    obtain ⟨i, v⟩ := p
    simp only [fillL] at h
    cases hf : f i with
    | none => rw [hf] at h; cases h
    | some on =>
      obtain ⟨o, n⟩ := on
      rw [hf] at h
      simp only [lenA_zero] at h
      cases hb : and (Nat.beq v.cells.length n) (Nat.ble (Nat.add o n) zs.length) with
      | false => rw [hb] at h; cases h
      | true =>
        rw [hb] at h
        simp only [] at h
        rw [Bool.and_eq_true] at hb
        have hn : v.cells.length = n := Nat.eq_of_beq_eq_true hb.1
        have hle : o + n ≤ zs.length := Nat.le_of_ble_eq_true hb.2
        rw [ih _ r h]
        simp
        show min o zs.length + (v.cells.length + (zs.length - (o + n))) = zs.length
        omega

theorem buildSlice_ok (hE : EnvOk E P) {t n : Nat} {ps : Array (Nat × Operand)} (ho : ∀ x ∈ ps.toList, OpRel ρ a e x.2) {id : Nat} {v : V} {b : Blk} (hr : nBuildSlice E a t n ps.toList id = some (v, b)) :
    NewOk P ρ id w ((do pure (Next.value (← Instr.buildSlice t n (ps.map fun (i, x) => (i, e x)))) : Sem Next).run P w) v b := by
  unfold nBuildSlice at hr
  cases h1 : partsOf a ps.toList with
  | none => rw [h1] at hr; cases hr
  | some l =>
    rw [h1] at hr
    simp only [] at hr
    have hps := parts_ok ps.toList l ho h1
    have hpl : (ps.map fun (i, x) => (i, e x)).toList = ps.toList.map fun x => (x.1, e x.2) := by simp
    unfold buildSlice at hr
    cases hj : elemTI E t with
    | none => rw [hj] at hr; cases hr
    | some j =>
      rw [hj] at hr
      simp only [] at hr
      obtain ⟨el, f, g1, g2, g3, g4, g5, g6, g7, _⟩ := elemTI_some hE hj
      cases hz : j.zero with
      | none => rw [hz] at hr; cases hr
      | some z =>
        rw [hz] at hr
        simp only [] at hr
        cases hb : Nat.ble (Nat.mul n j.size) 16777216 with
        | false => rw [hb] at hr; cases hr
        | true =>
          rw [hb] at hr
          simp only [] at hr
          cases hf : fillL (fun k => some (Nat.mul k j.size, j.size)) (rep n z) l with
          | none => rw [hf] at hr; cases hr
          | some r =>
            rw [hf] at hr
            cases hr
            have hzl := hE.tabz el j z g2 hz
            obtain ⟨zv, z1, _, z3⟩ := zero_ok (ρ := ρ) hE g2 hz
            have hzs : zv.cells.size = j.size := by have := z3.length; simp at this; omega
            have hrep := rep_rel z3 (by omega) n (n * j.size) (by rw [hzs])
            obtain ⟨cells, q1, q2⟩ := fill_ok (fun k => some (k * j.size, j.size)) l _ _ r _ hps hrep hf
            have hsmall : ¬ n * f.size > 2 ^ 24 := by have := Nat.le_of_ble_eq_true hb; rw [g4]; show ¬ n * j.size > 2 ^ 24; have : n * j.size ≤ 16777216 := this; omega
            have hrun : (Instr.buildSlice t n (ps.map fun (i, x) => (i, e x))).run P w = .ok (.slice (some ⟨w.heap.size, 0, none⟩) n n) { w with heap := w.heap.push (.cells cells el) } := by
              unfold Instr.buildSlice
              simp only [Sem.run_bind, run_und g1, Result.andThen_ok, run_size g3, if_neg hsmall, Sem.run_pure]
              by_cases hn : n = 0
              · subst hn
                simp only [Nat.zero_mul, if_true, Sem.run_pure, Result.andThen_ok, hpl, g4] at q1 ⊢
                have : (Array.range 0).map (fun k => zv.cells[k % zv.cells.size]!) = (Array.range 0).map (fun k => (#[] : Array Value)[k % (#[] : Array Value).size]!) := by simp
                rw [this] at q1
                simp only [Sem.run_bind, Sem.run_pure, Result.andThen_ok]
                rw [q1]
                simp [newRow]
                try rfl
              · have hpos : n * f.size ≠ 0 := by rw [g4]; exact Nat.mul_ne_zero hn (by omega)
                rw [if_neg hpos]
                simp only [Sem.run_bind, z1, Result.andThen_ok, hpl, g4, Sem.run_pure]
                rw [q1]
                simp [newRow]
                try rfl
            have hcl : r.length = n * j.size := by
              rw [fillL_len _ l _ r hf, rep_len, hzl]
            have hcs : cells.size = n * j.size := by have := q2.length; simp at this; omega
            refine ⟨_, _, ⟨w.heap.size, 0, cells.size, r.length⟩, _, bi2 hrun, ⟨rfl, rfl, rfl⟩, rfl, row_new' q2, ?_⟩
            refine ⟨_, ⟨w.heap.size, 0, none⟩, n, if_pos rfl, rfl, ⟨by omega, Nat.le_refl _, fun k hk => ?_, fun hk => (by cases hk), ?_, ?_⟩⟩
            · cases hk; exact ⟨rfl, by show 0 + n * j.size ≤ r.length; omega, rfl⟩
            · show 0 + 0 + n * j.size ≤ cells.size; omega
            · show 0 + n * j.size ≤ r.length; omega


theorem makeSlice_ok (hE : EnvOk E P) {t : TypeId} {l cc : Operand} (hl : OpRel ρ a e l) (hc : OpRel ρ a e cc) {id : Nat} {v : V} {b : Blk} (hr : nMakeSlice E a t l cc id = some (v, b)) :
    NewOk P ρ id w ((do pure (Next.value (← Instr.makeSlice t (e l) (e cc))) : Sem Next).run P w) v b := by
  unfold nMakeSlice at hr
  cases h1 : opI a l with
  | none => rw [h1] at hr; cases hr
  | some nl =>
    rw [h1] at hr
    simp only [] at hr
    cases h2 : opI a cc with
    | none => rw [h2] at hr; cases hr
    | some nc =>
      rw [h2] at hr
      simp only [] at hr
      obtain ⟨kl, el'⟩ := toI_rel hl h1
      obtain ⟨kc, ec⟩ := toI_rel hc h2
      unfold makeSlice at hr
      cases hj : elemTI E t with
      | none => rw [hj] at hr; cases hr
      | some j =>
        rw [hj] at hr
        simp only [] at hr
        obtain ⟨el, f, g1, g2, g3, g4, g5, g6, g7, _⟩ := elemTI_some hE hj
        cases hz : j.zero with
        | none => rw [hz] at hr; cases hr
        | some z =>
          rw [hz] at hr
          simp only [] at hr
          cases nc with
          | negSucc _ => cases hr
          | ofNat c =>
            simp only [] at hr
            cases hb : inB nl (Nat.succ c) with
            | none => rw [hb] at hr; cases hr
            | some m =>
              rw [hb] at hr
              simp only [] at hr
              obtain ⟨rfl, hm⟩ := inB_some hb
              cases hbb : Nat.ble (Nat.mul c j.bytes) maxBytes with
              | false => rw [hbb] at hr; cases hr
              | true =>
                rw [hbb] at hr
                cases hr
                have hby : c * j.bytes ≤ 140737488355328 := Nat.le_of_ble_eq_true hbb
                have hcb : c ≤ c * j.bytes := Nat.le_mul_of_pos_right c (by omega)
                have hzl := hE.tabz el j z g2 hz
                obtain ⟨zv, z1, _, z3⟩ := zero_ok (ρ := ρ) hE g2 hz
                have hzs : zv.cells.size = j.size := by have := z3.length; simp at this; omega
                have hrep := rep_rel z3 (by omega) c (c * j.size) (by rw [hzs])
                have hbi : ((f.bytes : Int) * (c : Int)) ≤ 281474976710656 := by rw [g5, ← Int.natCast_mul, Nat.mul_comm]; omega
                obtain ⟨fz, hfz⟩ : ∃ fz, f.zero = some fz := by
                  obtain ⟨f', k1, k2, _, _, _, _, k7⟩ := hE.tab el j g2
                  rw [g3] at k1; cases k1
                  obtain ⟨vv, k8, _⟩ := k7 z hz
                  exact ⟨vv, k8⟩
                have hfz' : fz = zv := by
                  have := z1 w
                  rw [run_zero g3 hfz] at this
                  cases this; rfl
                subst hfz'
                have hrun := run_make (P := P) w t el f fz g1 g3 hfz kl kc (m : Int) (c : Int) (by omega) (by omega) hbi (by omega)
                have hn : ((m : Nat) : Int).toNat = m := rfl
                have hn2 : ((c : Nat) : Int).toNat = c := rfl
                rw [hn, hn2, g4] at hrun
                have ec' : e cc = .int kc (c : Int) := ec
                rw [el', ec']
                have hsz : (madeCells fz.cells (c * j.size)).size = c * j.size := by simp [madeCells]
                have hrl : (rep c z).length = c * j.size := by rw [rep_len, hzl]
                refine ⟨_, _, ⟨w.heap.size, 0, (madeCells fz.cells (c * j.size)).size, (rep c z).length⟩, _, bi2 hrun, ⟨rfl, rfl, rfl⟩, rfl, row_new' hrep, ?_⟩
                refine ⟨_, ⟨w.heap.size, 0, none⟩, c, if_pos rfl, rfl, ⟨by omega, by omega, fun k hk => ?_, fun hk => (by cases hk), ?_, ?_⟩⟩
                · cases hk; exact ⟨rfl, by show 0 + c * j.size ≤ (rep c z).length; omega, rfl⟩
                · show 0 + 0 + c * j.size ≤ (madeCells fz.cells (c * j.size)).size; omega
                · show 0 + m * j.size ≤ (rep c z).length
                  have : m * j.size ≤ c * j.size := Nat.mul_le_mul_right _ (by omega)
                  omega

theorem makeMap_ok {t : TypeId} {id : Nat} : NewOk P ρ id w ((do pure (Next.value (← Instr.makeMap t none)) : Sem Next).run P w) (vc (.map id)) (.map []) := by
  refine ⟨.map (some w.heap.size), { w with heap := w.heap.push (.map #[] 0) }, ⟨w.heap.size, 0, 0, 0⟩, .map #[] 0, ?_, ⟨rfl, rfl, rfl⟩, rfl, ⟨#[], 0, rfl, .nil⟩, ⟨_, if_pos rfl, rfl⟩⟩
  exact bi2 (by simp [Instr.makeMap])

theorem range_ok (hE : EnvOk E P) (hx : OpRel ρ a e x) {t : TypeId} {id : Nat} {v : V} {b : Blk} (hr : nRange E a t x id = some (v, b)) :
    NewOk P ρ id w ((do pure (Next.value (← Instr.range t (e x))) : Sem Next).run P w) v b := by
  unfold nRange at hr
  cases hu : undT E t with
  | none => rw [hu] at hr; cases hr
  | some ty =>
    rw [hu] at hr
    have hu' := (undT_some hE hu).1
    cases ty <;> simp only [] at hr <;> try (cases hr; done)
    cases hc : opC a x with
    | none => rw [hc] at hr; cases hr
    | some c =>
      rw [hc] at hr
      cases c <;> simp only [] at hr <;> try (cases hr; done)
      rename_i z
      cases hr
      obtain ⟨bs, ex, rfl⟩ := toC_rel hx hc
      refine ⟨.pointer (some ⟨w.heap.size, 0, none⟩), { w with heap := w.heap.push (.stringIter bs 0) }, ⟨w.heap.size, 0, 0, 0⟩, .stringIter bs 0, ?_, ⟨rfl, rfl, rfl⟩, rfl, ⟨bs, rfl, rfl, rfl⟩, ⟨_, if_pos rfl, rfl⟩⟩
      exact bi2 (by simp [Instr.range, run_und hu', ex])

end
end Ev
