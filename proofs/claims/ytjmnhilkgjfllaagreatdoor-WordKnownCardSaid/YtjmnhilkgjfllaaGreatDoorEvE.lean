import Derived.Test.YtjmnhilkgjfllaaGreatDoorEvD
set_option linter.unusedVariables false
set_option linter.unusedSimpArgs false
namespace Ev
open Go

/-! ### the tables are the program's -/
structure EnvOk (E : Env) (P : Program) : Prop where
  tab : ∀ t i, E.tab.get t = some i → ∃ f, P.info? t = some f ∧ f.size = i.size ∧ f.bytes = i.bytes ∧ P.underlying t = some i.und ∧ i.held = P.stoodInHeld t ∧ (plainD i.und = true → f.comparable = true) ∧
    ∀ z, i.zero = some z → ∃ v, f.zero = some v ∧ ∀ ρ, (∀ w, mkW i.isAgg z = some w → WRel ρ w v) ∧ LRel ρ z v.cells.toList
  tabz : ∀ t i z, E.tab.get t = some i → i.zero = some z → z.length = i.size
  any : P.follows .mixedOrders = true

section
variable {P : Program} {w : World}

theorem run_info {t : TypeId} {i : TypeInfo} (h : P.info? t = some i) : (typeInfo t).run P w = .ok i w := by
  simp [typeInfo, h]
theorem run_und {t : TypeId} {d : TypeDesc} (h : P.underlying t = some d) : (underlying t).run P w = .ok d w := by
  simp [underlying, h]
theorem run_size {t : TypeId} {i : TypeInfo} (h : P.info? t = some i) : (Go.sizeOf t).run P w = .ok i.size w := by
  simp [Go.sizeOf, run_info h]
theorem run_zero {t : TypeId} {i : TypeInfo} {v : Value} (h : P.info? t = some i) (hz : i.zero = some v) : (zeroValue t).run P w = .ok v w := by
  simp [zeroValue, run_info h, hz]
theorem run_agg {t : TypeId} {d : TypeDesc} (h : P.underlying t = some d) : (isAgg t).run P w = .ok (isAggT d) w := by
  unfold isAgg
  simp only [Sem.run_bind, run_und h, Result.andThen_ok]
  cases d <;> rfl

theorem add_at (c o i : Nat) : (⟨c, o, none⟩ : Addr).add i = ⟨c, o + i, none⟩ := by unfold Addr.add; split <;> simp_all

/-! ### reading -/
theorem cell_of {H : Array Obj} (hw : w.heap = H) {c o : Nat} {arr : Array Value} {e : TypeId} {fz : Nat × Nat} (h : H[c]? = some (.cells arr e fz)) :
    w.cell? ⟨c, o, none⟩ = arr[o]? := by simp [World.cell?, hw, h]

theorem rowOf_some {look : Look} {b : Nat} {r : Row} (h : rowOf look b = some r) : look b = some (.row r) := by
  unfold rowOf at h
  cases e : look b with
  | none => rw [e] at h; cases h
  | some x => rw [e] at h; cases x <;> first | (cases h; done) | (cases h; rfl)
theorem rowOf_row {look : Look} {b : Nat} {r : Row} (h : look b = some (.row r)) : rowOf look b = some r := by
  unfold rowOf; rw [h]; rfl
theorem readR_some {r : Row} {o n : Nat} {l : List C} (h : readR r o n = some l) : o + n ≤ r.n ∧ r.q.getL n o = some l := by
  obtain ⟨q, m, a, b, c⟩ := r
  unfold readR at h
  simp only [] at h
  cases e : Nat.ble (Nat.add o n) m with
  | false => rw [e] at h; cases h
  | true => rw [e] at h; exact ⟨Nat.le_of_ble_eq_true e, h⟩
theorem readL_some {look : Look} {b o n : Nat} {l : List C} (h : readL look b o n = some l) : ∃ r, look b = some (.row r) ∧ o + n ≤ r.n ∧ r.q.getL n o = some l := by
  unfold readL at h
  cases e : rowOf look b with
  | none => rw [e] at h; cases h
  | some r => rw [e] at h; exact ⟨r, rowOf_some e, readR_some h⟩

theorem getL_rel {ρ : Mp} {p : Place} {r : Row} {arr : Array Value} {fz : Nat × Nat} (h : RowRel ρ p r arr fz) {o n : Nat} {l : List C}
    (ho : o + n ≤ r.n) (hl : r.q.getL n o = some l) : ∃ vs : List Value, LRel ρ l vs ∧ vs.length = n ∧ ∀ j, j < n → arr[p.o + o + j]? = vs[j]? := by
  obtain ⟨h1, h2⟩ := T.getL_some hl
  refine ⟨(arr.toList.drop (p.o + o)).take n, ?_, ?_, ?_⟩
  · apply All2.of_get
    · simp; have := h.le; have := h.tot; omega
    · intro i x v hx hv
      have hi : i < n := by have := (List.getElem?_eq_some_iff.1 hx).1; omega
      have hq := h2 i hi
      rw [hx] at hq
      obtain ⟨v', g1, g2⟩ := h.cell (o + i) x (by omega) hq
      rw [List.getElem?_take, if_pos hi, List.getElem?_drop] at hv
      rw [show p.o + o + i = p.o + (o + i) by omega] at hv
      simp at hv
      rw [g1] at hv; cases hv; exact g2
  · simp; have := h.le; have := h.tot; omega
  · intro j hj
    rw [List.getElem?_take, if_pos hj, List.getElem?_drop]
    simp

theorem readL_rel {ρ : Mp} {look : Look} {H : Array Obj} (h : Sees ρ look H) {b o n : Nat} {l : List C} (hr : readL look b o n = some l)
    {p : Place} (hp : ρ b = some p) : ∃ vs : List Value, LRel ρ l vs ∧ vs.length = n ∧ o + n ≤ p.kn ∧ ∀ (w : World), w.heap = H → ∀ j v, vs[j]? = some v → w.cell? (Addr.add ⟨p.c, p.o + o, none⟩ j) = some v := by
  obtain ⟨r, h1, h2, h3⟩ := readL_some hr
  obtain ⟨ob, g2, g3⟩ := h b _ p h1 rfl hp
  obtain ⟨arr, e, fz, rfl, hrow⟩ := g3
  obtain ⟨vs, k1, k2, k3⟩ := getL_rel hrow h2 h3
  refine ⟨vs, k1, k2, by have := hrow.kn; omega, fun w hw j v hv => ?_⟩
  have hj : j < n := by have := (List.getElem?_eq_some_iff.1 hv).1; omega
  rw [add_at, cell_of hw g2, k3 j hj, hv]

theorem run_readL {ρ : Mp} {look : Look} (h : Sees ρ look w.heap) {b o n : Nat} {l : List C} (hr : readL look b o n = some l)
    {p : Place} (hp : ρ b = some p) : ∃ vs : List Value, LRel ρ l vs ∧ (loadCells ⟨p.c, p.o + o, none⟩ n).run P w = .ok vs.toArray w := by
  obtain ⟨vs, h1, h2, _, h3⟩ := readL_rel h hr hp
  have := run_loadCells_list (P := P) w ⟨p.c, p.o + o, none⟩ vs (h3 w rfl)
  rw [h2] at this
  exact ⟨vs, h1, this⟩

theorem mkW_rel {ρ : Mp} {agg : Bool} {l : List C} {vs : List Value} (h : LRel ρ l vs) {x : W} (hx : mkW agg l = some x) :
    (agg = true ∧ x = .agg l ∧ WRel ρ x (.agg vs.toArray)) ∨ (agg = false ∧ ∃ c v, l = [c] ∧ vs = [v] ∧ x = .c c ∧ CRel ρ c v) := by
  cases agg with
  | true => simp [mkW] at hx; subst hx; exact .inl ⟨rfl, rfl, vs.toArray, rfl, by simpa using h⟩
  | false =>
    cases h with
    | nil => simp [mkW] at hx
    | cons h1 h2 => cases h2 with
      | nil => simp [mkW] at hx; subst hx; exact .inr ⟨rfl, _, _, rfl, rfl, rfl, h1⟩
      | cons _ _ => simp [mkW] at hx

theorem run_load_var {E : Env} (hE : EnvOk E P) {ρ : Mp} {look : Look} (h : Sees ρ look w.heap) {t b o : Nat} {x : W} (hl : load E t look b o = some x)
    {p : Place} (hp : ρ b = some p) : ∃ v, WRel ρ x v ∧ (loadVar t ⟨p.c, p.o + o, none⟩).run P w = .ok v w := by
  unfold load at hl
  cases hi : E.tab.get t with
  | none => rw [hi] at hl; cases hl
  | some i =>
    rw [hi] at hl
    simp only [] at hl
    cases hr : readL look b o i.size with
    | none => rw [hr] at hl; cases hl
    | some l =>
      rw [hr] at hl
      simp only [] at hl
      obtain ⟨f, f1, f2, f3, f4, _, _, _⟩ := hE.tab t i hi
      obtain ⟨vs, h1, h2⟩ := run_readL (P := P) h hr hp
      unfold loadVar
      rcases mkW_rel h1 hl with ⟨ha, rfl, hw⟩ | ⟨ha, c, v, rfl, rfl, rfl, hc⟩
      · refine ⟨_, hw, ?_⟩
        have ha' : isAggT i.und = true := ha
        simp only [Sem.run_bind, run_agg f4, Result.andThen_ok, ha', if_true, run_size f1, f2, h2]
        rfl
      · refine ⟨v, hc, ?_⟩
        have ha' : isAggT i.und = false := ha
        obtain ⟨vs', g1, g2, g3, g4⟩ := readL_rel h hr hp
        have hone : i.size = 1 := by
          obtain ⟨r, _, _, k⟩ := readL_some hr
          have := (T.getL_some k).1; simpa using this.symm
        rw [hone] at h2
        have e : w.cell? ⟨p.c, p.o + o, none⟩ = some v := by
          have hg := (List.mem_toArray (l := [v]) (a := v)).2 (by simp)
          cases g1 with
          | cons q1 q2 => cases q2 with
            | nil =>
              rename_i u
              have := g4 w rfl 0 u rfl
              rw [add_at] at this
              have hh := run_loadCells_list (P := P) w ⟨p.c, p.o + o, none⟩ [u] (fun j x hx => by
                cases j with
                | zero => simp at hx; subst hx; rw [add_at]; exact this
                | succ j => simp at hx)
              simp only [List.length_singleton] at hh
              rw [h2] at hh
              have : v = u := by simpa using hh
              subst this
              simpa using ‹w.cell? _ = _›
        simp only [Sem.run_bind, run_agg f4, Result.andThen_ok, ha', Bool.false_eq_true, if_false, run_load, e]
end

end Ev
