import Derived.Test.YtpkjpkfamdmgiaaGreatDoorWqP
import Derived.Test.YtpkjpkfamdmgiaaGreatDoorEwL
namespace Ws
open Go Go.Proofs Ev Wq
set_option linter.unusedVariables false
set_option linter.unusedSimpArgs false
set_option linter.unnecessarySimpa false
set_option maxRecDepth 100000
theorem rNil_eq (a : A) (x : Operand) : rNil a x = match opC a x with
  | some (.ptr b o) => some (vc (.ptr b o))
  | some (.dp b o) => some (vc (.dp b o))
  | _ => none := rfl
theorem st53 (X : T Ext) (s : St) (b o : Nat) (w : W) : store (En X) 53 s b o w = if w.cells.length = 1 then writeL s b o w.cells else none := store_of (tab53 X) tis53 s b o w
theorem st40 (X : T Ext) (s : St) (b o : Nat) (w : W) : store (En X) 40 s b o w = if w.cells.length = 1 then writeL s b o w.cells else none := store_of (tab40 X) tis40 s b o w
theorem st4 (X : T Ext) (s : St) (b o : Nat) (w : W) : store (En X) 4 s b o w = if w.cells.length = 1 then writeL s b o w.cells else none := store_of (tab4 X) tis4 s b o w
def endL (ls : List (List (Nat × Bool))) (now : List (Nat × Bool)) (bg : Bool) : List (List (Nat × Bool)) := if bg = true then ls ++ [now] else ls
theorem ends27 (X : T Ext) (hX : (En X).ext.get 27 = none) {S : St} {b : Nat} {P : Nat → Prop} {ls : List (List (Nat × Bool))} {now : List (Nat × Bool)} {bg : Bool} (h : Mk S b P ls now bg) (hn : ls.length ≤ 10000) (K : V → St → Prop)
    (hK : ∀ S' : St, S.nx ≤ S'.nx → Mk S' b P (endL ls now bg) [] false → (∀ x, P x → S'.h.get x = S.h.get x) → K (.tup []) S') : goC (En X) 27 [.c (.ptr b 0)] S K := by
  refine goC_body hX (kp27 X) (fn27 X) rfl (by kernel_rfl) ?_
  have hres : Tryz.f27.results.toList = [] := rfl
  obtain ⟨lc, nc, cs, h1, h2, h3, h4, h5, h6, h7, h8, h9, h10⟩ := h
  have c2 : ldHC S.h.get b 2 = some (.c (.bool bg)) := h1.ldC rfl
  have hl1 : ∀ c : C, ([c] : List C).length = 1 := fun _ => rfl
  cases bg with
  | false =>
    obtain ⟨S1, w1, r1, n1, f1⟩ := h1.one (o := 1) .nils (show 1 < 3 by omega)
    obtain ⟨S2, w2, r2, n2, f2⟩ := r1.one (o := 2) (.bool false) (show 2 < 3 by omega)
    have fk : ∀ x, x ≠ b → S2.h.get x = S.h.get x := fun x hx => (f2 x hx).trans (f1 x hx)
    simp only [zEV, Nat.reduceShiftRight, Nat.reduceMod, Nat.reduceEqDiff, Nat.reduceAdd, ↓reduceIte, reduceCtorEq, rNil_eq, fA_78_1, fA_78_2, ldh4, c2, st40, st4, hl1, w1, w2, hres]
    exact hK S2 (by omega) ⟨lc, .nils, cs, r2, by omega, (fun x hx => by have := h3 x hx; omega), h4, h5.keep (by omega) fun x hx => fk x (h8 x hx).1, SlAt.nil _ _, All2_imp h7 fun c hc l hl => SlAt_keep hl (by omega) fun x hx => fk x (h10 c hc x hx).1, h8, fun x hx => absurd hx (rw_nils x),
      fun c hc x hx => ⟨(h10 c hc x hx).1, (h10 c hc x hx).2.1, (h10 c hc x hx).2.2.1, rw_nils x⟩⟩ (fun x hx => fk x fun e => h4 (e ▸ hx))
  | true =>
    simp only [zEV, Nat.reduceShiftRight, Nat.reduceMod, Nat.reduceEqDiff, Nat.reduceAdd, ↓reduceIte, reduceCtorEq, rNil_eq, fA_78_2, ldh4, c2]
    refine go_drawD _ _ 11 14 [0, 0, 2, 6, 14, 0, 32, 96, 224, 480, 1022, 2047, 4095, 8191] rfl (by kernel_rfl) (by kernel_rfl) (by kernel_rfl) ?_
    have c0 : ldHC S.h.get b 0 = some (.c lc) := h1.ldC rfl
    have c1 : ldHC S.h.get b 1 = some (.c nc) := h1.ldC rfl
    obtain ⟨S1, hS1⟩ : ∃ S1 : St, S1 = ⟨S.h.set (S.nx + 9) (.row (mkRow [nc])), S.nx + 14⟩ := ⟨_, rfl⟩
    have k1 : ∀ x, x < S.nx → S1.h.get x = S.h.get x := fun x hx => by rw [hS1]; show (S.h.set (S.nx + 9) (.row (mkRow [nc]))).get x = _; rw [T.get_set, if_neg (by omega)]
    have n1 : S1.nx = S.nx + 14 := by rw [hS1]
    have e1 : newCells S1.h.get 1 (.sl (S.nx + 9) 0 1 (some 1) 1) = some (1, [nc]) := by
      have hrow : S1.h.get (S.nx + 9) = some (.row ⟨T.ofL [nc], 1, true, 0, []⟩) := by rw [hS1]; show (S.h.set (S.nx + 9) (.row (mkRow [nc]))).get (S.nx + 9) = _; rw [T.get_set, if_pos rfl, mkRow_eq]; rfl
      unfold newCells
      simp only []
      rw [readL_row hrow, show Nat.mul 1 1 = 1 from rfl, readR_eq _ _ _ _ _ _ _ (by omega)]
      show (match (T.ofL [nc]).getL [nc].length 0 with | some l => some (1, l) | none => none) = _
      rw [T.getL_ofL]
    have sl1 := h5.keep (s' := S1) (by omega) fun x hx => k1 x (h5.lt hx)
    have hcs : cs.length = ls.length := h7.length
    obtain ⟨c', S2, happ, sl2, kp2, n2, hq2⟩ := app_ptr (E := En X) (t := 53) (x := nc) (y := .sl (S.nx + 9) 0 1 (some 1) 1) (el53 X) ti40.1 sl1 e1 (by rw [ti40.2, hcs]; have : maxBytes = 140737488355328 := rfl; omega)
    rw [hS1] at happ
    simp only [zEV, Nat.reduceShiftRight, Nat.reduceMod, Nat.reduceEqDiff, Nat.reduceAdd, ↓reduceIte, reduceCtorEq, zDH, Nat.reduceOr, Nat.reduceAnd, Nat.reduceShiftLeft, Nat.reduceLT, rNil_eq, fA_78_0, fA_78_1, ldh53, ldh40, c0, c1, nBuildSlice_eq, partsOf_cons, partsOf_nil, bS53_1, us53, happ]
    have kb : ∀ x, x < S.nx → ¬ rw' lc x → S2.h.get x = S.h.get x := fun x hx hr => (kp2.2 x (by omega) fun b o n cap z e => by rintro rfl; exact hr ⟨_, _, _, _, e⟩).trans (k1 x hx)
    have r2 : LRow S2 b [lc, nc, .bool true] := h1.keep (kb b h2 fun hr => (h8 b hr).1 rfl)
    obtain ⟨S3, w3, r3, n3, f3⟩ := r2.one (o := 0) c' (show 0 < 3 by omega)
    obtain ⟨S4, w4, r4, n4, f4⟩ := r3.one (o := 1) .nils (show 1 < 3 by omega)
    obtain ⟨S5, w5, r5, n5, f5⟩ := r4.one (o := 2) (.bool false) (show 2 < 3 by omega)
    have kz : ∀ x, x ≠ b → S5.h.get x = S2.h.get x := fun x hx => (f5 x hx).trans ((f4 x hx).trans (f3 x hx))
    have nle : S.nx ≤ S5.nx := by omega
    rw [dt_nilCheck _ _ _ _ _ (v := vc (.ptr b 0)) (by simp only [zEA, Nat.reduceShiftRight, Nat.reduceMod, Nat.reduceEqDiff, Nat.reduceAdd, ↓reduceIte, reduceCtorEq, rNil_eq]), dt_fieldAddr _ _ _ _ _ _ _ (v := vc (.ptr b 0)) (by simp only [zEA, Nat.reduceShiftRight, Nat.reduceMod, Nat.reduceEqDiff, Nat.reduceAdd, ↓reduceIte, reduceCtorEq, rFieldAddr_eq, retC_some, fA_78_0])]
    refine dt_storeL r2 (b := b) (o := 0) (w := .c c') (s' := S3) (by simp only [zEA, Nat.reduceShiftRight, Nat.reduceMod, Nat.reduceEqDiff, Nat.reduceAdd, ↓reduceIte, reduceCtorEq]) (by simp only [zEA, Nat.reduceShiftRight, Nat.reduceMod, Nat.reduceEqDiff, Nat.reduceAdd, ↓reduceIte, reduceCtorEq]) (by rw [st53]; exact w3) ?_
    simp only [zEV, Nat.reduceShiftRight, Nat.reduceMod, Nat.reduceEqDiff, Nat.reduceAdd, ↓reduceIte, reduceCtorEq, rNil_eq, fA_78_1, fA_78_2, st40, st4, hl1, w4, w5, hres]
    refine hK S5 nle ⟨c', .nils, cs ++ [nc], r5, by omega, (fun x hx => by have := h3 x hx; omega), h4, sl2.keep (by omega) fun x hx => kz x (by have := hq2 x hx; omega), SlAt.nil _ _, ?_, fun x hx => ⟨by have := hq2 x hx; omega, fun hp => by have := hq2 x hx; have := h3 x hp; omega⟩, fun x hx => absurd hx (rw_nils x), ?_⟩ (fun x hx => (kz x fun e => h4 (e ▸ hx)).trans (kb x (h3 x hx) fun hr => (h8 x hr).2 hx))
    · refine All2_snoc (All2_imp h7 fun c hc l hl => SlAt_keep hl nle fun x hx => ?_) (SlAt_keep h6 nle fun x hx => ?_)
      · have := h10 c hc x hx
        exact (kz x this.1).trans (kb x (SlAt_lt hl hx) this.2.2.1)
      · have := h9 x hx
        exact (kz x this.1).trans (kb x (SlAt_lt h6 hx) this.2.2)
    · intro c hc x hx
      rcases List.mem_append.1 hc with hc | hc
      · have := h10 c hc x hx
        obtain ⟨l, hl⟩ := All2_left h7 c hc
        exact ⟨this.1, this.2.1, fun hr => by have := hq2 x hr; have := SlAt_lt hl hx; omega, rw_nils x⟩
      · simp only [List.mem_singleton] at hc
        subst hc
        have := h9 x hx
        exact ⟨this.1, this.2.1, fun hr => by have := hq2 x hr; have := SlAt_lt h6 hx; omega, rw_nils x⟩
theorem puts28 (X : T Ext) (hX : (En X).ext.get 28 = none) {S : St} {b : Nat} {P : Nat → Prop} {ls : List (List (Nat × Bool))} {now : List (Nat × Bool)} {bg : Bool} (h : Mk S b P ls now bg) {y : C} {l : List (Nat × Bool)} (hy : newCells S.h.get 2 y = some (l.length, cellsD (l.map elC).flatten)) (hn : now.length + l.length ≤ 10000) (K : V → St → Prop)
    (hK : ∀ S' : St, S.nx ≤ S'.nx → Mk S' b P ls (now ++ l) true → (∀ x, P x → S'.h.get x = S.h.get x) → K (.tup []) S') : goC (En X) 28 [.c (.ptr b 0), .c y] S K := by
  refine goC_body hX (kp28 X) (fn28 X) rfl (by kernel_rfl) ?_
  have hres : Tryz.f28.results.toList = [] := rfl
  obtain ⟨lc, nc, cs, h1, h2, h3, h4, h5, h6, h7, h8, h9, h10⟩ := h
  have c1 : ldHC S.h.get b 1 = some (.c nc) := h1.ldC rfl
  have hl1 : ∀ c : C, ([c] : List C).length = 1 := fun _ => rfl
  obtain ⟨c', S2, happ, sl2, kp2, hq2⟩ := app_cells (y := y) (l := l.map elC) (el40 X) (by rw [ti65.1]; exact h6) (by rw [ti65.1]; exact elC_two l) (by rw [ti65.1]; decide) (by rw [ti65.1, List.length_map]; exact hy)
    (by rw [ti65.2, List.length_map, List.length_map]; have : maxBytes = 140737488355328 := rfl; omega)
  rw [ti65.1, ← List.map_append] at sl2
  have kb : ∀ x, x < S.nx → ¬ rw' nc x → S2.h.get x = S.h.get x := fun x hx hr => kp2.2 x hx fun b o n cap z e => by rintro rfl; exact hr ⟨_, _, _, _, e⟩
  have r2 : LRow S2 b [lc, nc, .bool bg] := h1.keep (kb b h2 fun hr => (h9 b hr).1 rfl)
  obtain ⟨S3, w3, r3, n3, f3⟩ := r2.one (o := 1) c' (show 1 < 3 by omega)
  obtain ⟨S4, w4, r4, n4, f4⟩ := r3.one (o := 2) (.bool true) (show 2 < 3 by omega)
  have kz : ∀ x, x ≠ b → S4.h.get x = S2.h.get x := fun x hx => (f4 x hx).trans (f3 x hx)
  have nle0 := kp2.1
  have nle : S.nx ≤ S4.nx := by omega
  have hrc : ∀ x, rw' c' x → (c' = nc ∧ rw' nc x) ∨ S.nx ≤ x := fun x hx => by
    obtain ⟨o, n, cap, z, e⟩ := hx
    rcases hq2 _ _ _ _ _ e with ⟨q, _⟩ | q
    · exact .inl ⟨q, by rw [← q]; exact ⟨_, _, _, _, e⟩⟩
    · exact .inr q
  simp only [zEV, Nat.reduceShiftRight, Nat.reduceMod, Nat.reduceEqDiff, Nat.reduceAdd, ↓reduceIte, reduceCtorEq, rNil_eq, fA_78_1, fA_78_2, ldh40, c1, us40, happ, st40, st4, hl1, w3, w4, hres]
  refine hK S4 nle ⟨lc, c', cs, r4, by omega, (fun x hx => by have := h3 x hx; omega), h4, h5.keep nle fun x hx => ?_, SlAt_keep sl2 (by omega) fun x hx => ?_, All2_imp h7 fun c hc l hl => SlAt_keep hl nle fun x hx => ?_, h8, fun x hx => ?_, fun c hc x hx => ?_⟩ (fun x hx => (kz x fun e => h4 (e ▸ hx)).trans (kb x (h3 x hx) fun hr => (h9 x hr).2.1 hx))
  · exact (kz x (h8 x hx).1).trans (kb x (h5.lt hx) fun hr => (h9 x hr).2.2 hx)
  · refine kz x ?_
    rcases hrc x hx with ⟨_, q⟩ | q
    · exact (h9 x q).1
    · omega
  · have := h10 c hc x hx
    exact (kz x this.1).trans (kb x (SlAt_lt hl hx) this.2.2.2)
  · rcases hrc x hx with ⟨_, q⟩ | q
    · exact h9 x q
    · exact ⟨by omega, (fun hp => by have := h3 x hp; omega), fun hr => by have := h5.lt hr; omega⟩
  · have := h10 c hc x hx
    obtain ⟨l, hl⟩ := All2_left h7 c hc
    exact ⟨this.1, this.2.1, this.2.2.1, fun hr => by
      rcases hrc x hr with ⟨_, q⟩ | q
      · exact this.2.2.2 q
      · have := SlAt_lt hl hx; omega⟩
end Ws
