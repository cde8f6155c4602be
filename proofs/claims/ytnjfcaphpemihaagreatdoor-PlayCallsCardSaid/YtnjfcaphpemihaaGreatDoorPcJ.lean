import Derived.Test.YtnjfcaphpemihaaGreatDoorPcH
import Derived.Test.YtnjfcaphpemihaaGreatDoorEwL
namespace Pc
open Go Go.Proofs Ev
set_option linter.unusedVariables false
set_option linter.unusedSimpArgs false
set_option maxRecDepth 100000
def KeepAll (s s' : St) : Prop := s.nx ≤ s'.nx ∧ ∀ x, x < s.nx → s'.h.get x = s.h.get x
theorem KeepAll.refl (s : St) : KeepAll s s := ⟨Nat.le_refl _, fun _ _ => rfl⟩
theorem KeepAll.trans {a b c : St} (h : KeepAll a b) (h' : KeepAll b c) : KeepAll a c := ⟨Nat.le_trans h.1 h'.1, fun x hx => by rw [h'.2 x (by have := h.1; omega), h.2 x hx]⟩
theorem KeepAll.new (s : St) (b : Blk) : KeepAll s (s.new b) := ⟨by rw [St.new_nx]; omega, fun x hx => new_old s b hx⟩
theorem KeepAll.readL {s s' : St} (h : KeepAll s s') {b : Nat} (hb : b < s.nx) (o n : Nat) : readL s'.h.get b o n = readL s.h.get b o n := by rw [readL_eq, readL_eq, h.2 b hb]
theorem clo33 (X : T Ext) (hX : (En X).ext.get 11 = none) {p : Nat} {x y : List D} (s : St) (hp : LRow s p (cellsD x)) (hps : p < s.nx) (hx : GoodC x) (hy : GoodC y) (K : V → St → Prop)
    (hK : ∀ (t : Bool) s', (t = true ↔ num y = num x) → KeepAll s s' → K (vc (.bool t)) s') : goC (En X) 11 [.agg (cellsD y), .c (.ptr p 0)] s K := by
  obtain ⟨nx, avx, vsx, inx, rfl, _, _, _⟩ := hx
  obtain ⟨ny, avy, vsy, iny, rfl, _, _, _⟩ := hy
  refine goC_body hX (kp11 X) (fn11 X) rfl (by kernel_rfl) ?_
  have r1 := LRow.new s (cellsD [.int .i64 ny, avy, vsy, .str (Str.ofL iny)])
  have r2 : LRow (s.new (.row (mkRow (cellsD [.int .i64 ny, avy, vsy, .str (Str.ofL iny)])))) p (cellsD [.int .i64 nx, avx, vsx, .str (Str.ofL inx)]) := hp.keep (new_old _ _ hps)
  have l1 := r1.ldC (o := 0) rfl
  have l2 := r2.ldC (o := 0) rfl
  simp only [toC_int] at l1 l2
  simp only [zEV, Nat.reduceShiftRight, Nat.reduceMod, Nat.reduceEqDiff, Nat.reduceAdd, ↓reduceIte, reduceCtorEq, fA_38_0, ldh3, l1, l2, toC_int]
  exact hK _ _ (by rw [decide_eq_true_eq]; simp [num]) (KeepAll.new _ _)
theorem index35 (X : T Ext) (hX : (En X).ext.get 18 = none) (h33 : (En X).ext.get 11 = none) {M : List (List D)} (hL : ∀ x ∈ M, GoodC x) (hLn : M.length ≤ 1000) {b lo p : Nat} {x : List D} (s : St) (hrow : ∀ j y, M[j]? = some y → readL s.h.get b (j * 4) 4 = some (cellsD y)) (hb : b < s.nx)
    (hp : LRow s p (cellsD x)) (hps : p < s.nx) (hx : GoodC x) (hlo : lo ≤ M.length) (K : V → St → Prop)
    (hK : ∀ (r : Int) s', (0 ≤ r ↔ ∃ j y, lo ≤ j ∧ M[j]? = some y ∧ num y = num x) → KeepAll s s' → K (vc (.int .i64 r)) s') :
    goC (En X) 18 [.c (.sl b (lo * 4) (M.length - lo) none 4), .c (.fn 11 [(p, 0)])] s K := by
  refine goC_body hX (kp18 X) (fn18 X) rfl (by kernel_rfl) ?_
  have hl : ∀ look, len (En X) 26 look (.sl b (lo * 4) (M.length - lo) none 4) = some (M.length - lo) := fun look => len_sl (us26 X) _ _ _ _ _
  simp only [zEV, Nat.reduceShiftRight, Nat.reduceMod, Nat.reduceEqDiff, Nat.reduceAdd, ↓reduceIte, reduceCtorEq, hl]
  refine go_loop (goL_inv (fun n a s' => ∃ i, n = M.length - lo - i ∧ i ≤ M.length - lo ∧ Has a 0 (vc (.sl b (lo * 4) (M.length - lo) none 4)) ∧ Has a 1 (vc (.fn 11 [(p, 0)])) ∧ Has a 7 (vc (.int .i64 (Int.ofNat (M.length - lo)))) ∧ Has a 8 (vc (.int .i64 (Int.ofNat i))) ∧ KeepAll s s' ∧
      ∀ j y, lo ≤ j → j < lo + i → M[j]? = some y → num y ≠ num x) (n := M.length - lo)
    ⟨0, rfl, Nat.zero_le _, ⟨rfl, rfl⟩, ⟨rfl, rfl⟩, ⟨rfl, rfl⟩, ⟨rfl, rfl⟩, KeepAll.refl s, fun j y h1 h2 => by omega⟩ ?_)
  rintro n a s' ⟨i, rfl, hi, ⟨g0, k0⟩, ⟨g1, k1⟩, ⟨g7, k7⟩, ⟨g8, k8⟩, hka, hno⟩
  by_cases hlt : i < M.length - lo
  · obtain ⟨y, hy⟩ : ∃ y, M[lo + i]? = some y := ⟨_, List.getElem?_eq_getElem (by omega)⟩
    have hgy := hL y (List.mem_of_getElem? hy)
    have hix := index_sl (us26 X) (sz38 X) b (lo * 4) (M.length - lo) none 4 hlt
    have hrd : ldHA 4 s'.h.get b (lo * 4 + i * 4) = some (.agg (cellsD y)) := by
      unfold ldHA
      rw [hka.readL hb, show lo * 4 + i * 4 = (lo + i) * 4 by omega, hrow _ _ hy]
    have hsu := i64_1000 (show i < 1000 by omega) (Nat.le_refl _)
    simp only [zEV, Nat.reduceShiftRight, Nat.reduceMod, Nat.reduceEqDiff, Nat.reduceAdd, ↓reduceIte, reduceCtorEq, g0, k0, g1, k1, g7, k7, g8, k8, lt_true hlt, hix, ldh38, hrd]
    refine go_call _ _ _ _ _ _ (ws := [.agg (cellsD y)]) (g := 11) (cap := [(p, 0)]) (by simp only [zEV, Nat.reduceShiftRight, Nat.reduceMod, Nat.reduceEqDiff, Nat.reduceAdd, ↓reduceIte, reduceCtorEq]) (by simp only [zEA, Nat.reduceShiftRight, Nat.reduceMod, Nat.reduceEqDiff, Nat.reduceAdd, ↓reduceIte, reduceCtorEq, argsOf_cons, argsOf_nil]) ?_
    refine clo33 X h33 s' (hp.keep (hka.2 p hps)) (by have := hka.1; omega) hx hgy _ fun t s2 ht hk2 => ?_
    cases t with
    | true =>
      simp only [zEV, Nat.reduceShiftRight, Nat.reduceMod, Nat.reduceEqDiff, Nat.reduceAdd, ↓reduceIte, reduceCtorEq, g0, k0, g1, k1, g7, k7, g8, k8]
      exact hK _ _ ⟨fun _ => ⟨lo + i, y, by omega, hy, ht.1 rfl⟩, fun _ => Int.natCast_nonneg i⟩ (hka.trans hk2)
    | false =>
      simp only [zEV, Nat.reduceShiftRight, Nat.reduceMod, Nat.reduceEqDiff, Nat.reduceAdd, ↓reduceIte, reduceCtorEq, g0, k0, g1, k1, g7, k7, g8, k8, hsu]
      refine ⟨_, ?_, i + 1, rfl, hlt, ⟨?_, ?_⟩, ⟨?_, ?_⟩, ⟨?_, ?_⟩, ⟨?_, ?_⟩, hka.trans hk2, fun j z h1 h2 h3 => ?_⟩
      all_goals first | (simp only [zEA, Nat.reduceShiftRight, Nat.reduceMod, Nat.reduceEqDiff, Nat.reduceAdd, ↓reduceIte, reduceCtorEq, g0, k0, g1, k1, g7, k7]; done) | skip
      · omega
      rcases Nat.lt_or_ge j (lo + i) with g | g
      · exact hno j z h1 g h3
      · have : j = lo + i := by omega
        subst this
        rw [hy] at h3; cases h3
        exact fun h => by have := ht.2 h; cases this
  · simp only [zEV, Nat.reduceShiftRight, Nat.reduceMod, Nat.reduceEqDiff, Nat.reduceAdd, ↓reduceIte, reduceCtorEq, g0, k0, g1, k1, g7, k7, g8, k8, lt_false hlt]
    refine hK _ _ ⟨fun h => absurd h (by decide), ?_⟩ hka
    rintro ⟨j, y, h1, h2, h3⟩
    have := (List.getElem?_eq_some_iff.1 h2).1
    exact absurd h3 (hno j y h1 (by omega) h2)
theorem contains32 (X : T Ext) (hX : (En X).ext.get 10 = none) (h35 : (En X).ext.get 18 = none) (h33 : (En X).ext.get 11 = none) {M : List (List D)} (hL : ∀ x ∈ M, GoodC x) (hLn : M.length ≤ 1000) {b lo p : Nat} {x : List D} (s : St) (hrow : ∀ j y, M[j]? = some y → readL s.h.get b (j * 4) 4 = some (cellsD y)) (hb : b < s.nx)
    (hp : LRow s p (cellsD x)) (hps : p < s.nx) (hx : GoodC x) (hlo : lo ≤ M.length) (K : V → St → Prop)
    (hK : ∀ (t : Bool) s', (t = true ↔ ∃ j y, lo ≤ j ∧ M[j]? = some y ∧ num y = num x) → KeepAll s s' → K (vc (.bool t)) s') :
    goC (En X) 10 [.c (.sl b (lo * 4) (M.length - lo) none 4), .c (.fn 11 [(p, 0)])] s K := by
  refine goC_body hX (kp10 X) (fn10 X) rfl (by kernel_rfl) ?_
  simp only [zEV, Nat.reduceShiftRight, Nat.reduceMod, Nat.reduceEqDiff, Nat.reduceAdd, ↓reduceIte, reduceCtorEq]
  refine go_call _ _ _ _ _ _ (ws := [.c (.sl b (lo * 4) (M.length - lo) none 4), .c (.fn 11 [(p, 0)])]) rfl (by simp only [zEA, Nat.reduceShiftRight, Nat.reduceMod, Nat.reduceEqDiff, Nat.reduceAdd, ↓reduceIte, reduceCtorEq, argsOf_cons, argsOf_nil]) ?_
  refine index35 X h35 h33 hL hLn s hrow hb hp hps hx hlo _ fun r s' hr hk => ?_
  simp only [zEV, Nat.reduceShiftRight, Nat.reduceMod, Nat.reduceEqDiff, Nat.reduceAdd, ↓reduceIte, reduceCtorEq]
  exact hK _ _ (by rw [decide_eq_true_eq]; exact hr) hk
theorem slat_len {s : St} {c : C} {z : Nat} {ls : List (List D)} (h : SlAt s c z ls) {E : Env} {t e : Nat} {look : Look} (hu : undT E t = some (.slice e)) : len E t look c = some ls.length := by
  rcases h.2 with ⟨rfl, rfl⟩ | ⟨b, sh, anc, rfl, _⟩
  · exact len_nils hu
  · exact len_sl hu _ _ _ _ _
theorem flat_at (z : Nat) : ∀ (l : List (List D)) (j : Nat) (x : List D), (∀ x ∈ l, x.length = z) → l[j]? = some x → ((cellsD l.flatten).drop (j * z)).take z = cellsD x
  | [], j, x, _, h => by simp at h
  | y :: l, 0, x, hl, h => by
    simp at h; subst h
    have := hl y (by simp)
    rw [Nat.zero_mul, List.drop_zero, List.flatten_cons, cellsD_append]
    exact List.take_left' (by simp [cellsD, this])
  | y :: l, j + 1, x, hl, h => by
    have hy := hl y (by simp)
    have := flat_at z l j x (fun a ha => hl a (by simp [ha])) (by simpa using h)
    rw [List.flatten_cons, cellsD_append, Nat.add_mul, Nat.one_mul, Nat.add_comm, ← List.drop_drop, List.drop_left' (by simp [cellsD, hy])]
    exact this
theorem slat_read {s : St} {b sh : Nat} {anc : List Nat} {z : Nat} {ls : List (List D)} (hl : ∀ x ∈ ls, x.length = z) (h : s.h.get b = some (.row ⟨T.ofL (cellsD ls.flatten), (cellsD ls.flatten).length, true, sh, anc⟩)) {j : Nat} {x : List D} (hj : ls[j]? = some x) : readL s.h.get b (j * z) z = some (cellsD x) := by
  have hjl := (List.getElem?_eq_some_iff.1 hj).1
  have hc := cells_len z ls hl
  have : (j + 1) * z ≤ ls.length * z := Nat.mul_le_mul_right z hjl
  rw [Nat.add_mul, Nat.one_mul] at this
  rw [readL_row h, readR_if, if_pos (by omega), getL_ofL_if (by omega), flat_at z ls j x hl hj]
theorem slice_rest {E : Env} {t e z : Nat} (hu : undT E t = some (.slice e)) (hz : sizeT E e = some z) {look : Look} {b n lo : Nat} {r : Row} (hr : look b = some (.row r)) (hrn : r.n = n * z) (hz1 : 1 ≤ z) (hlo : lo ≤ n) :
    slice E t (.sl b 0 n none z) (some (.int .i64 (Int.ofNat lo))) none none look = some (.sl b (lo * z) (n - lo) none z) := by
  unfold slice
  rw [hu]
  simp only [hz, nbeq_self, cutSome]
  unfold cutOpen
  rw [rowOf_row hr]
  simp only []
  have hd : Nat.div (Nat.sub r.n 0) z = n := by
    show (r.n - 0) / z = n
    rw [Nat.sub_zero, hrn, Nat.mul_div_cancel _ hz1]
  rw [hd]
  have hc : cut3 (some (.int .i64 (Int.ofNat lo))) none none n n = some (lo, n, n) := by
    unfold cut3 bound
    simp only []
    unfold inB
    simp only []
    rw [show Nat.ble (Nat.succ lo) (Nat.succ n) = true from nble_true (Nat.succ_le_succ hlo)]
  rw [hc]
  simp only []
  congr 2
  exact Nat.zero_add _
theorem rSlice_eq (E : Env) (look : Look) (a : A) (t : Nat) (x lo : Operand) : rSlice E look a t x (some lo) none none = match opC a x with
  | none => none
  | some c => match opC a lo with
    | none => none
    | some l => retC (slice E t c (some l) none none look) := by
  unfold rSlice
  simp only [optC]
  cases opC a x with
  | none => rfl
  | some c =>
    simp only []
    cases opC a lo <;> rfl
theorem rMakeFunc_one (a : A) (f : Nat) (x : Operand) : rMakeFunc a (.func f) [] [x] = match opP a x with
  | some p => some (vc (.fn f [p]))
  | none => none := by
  unfold rMakeFunc ptrsOf
  cases opP a x <;> rfl
end Pc
