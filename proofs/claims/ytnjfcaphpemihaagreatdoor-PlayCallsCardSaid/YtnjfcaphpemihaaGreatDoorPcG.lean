import Derived.Test.YtnjfcaphpemihaaGreatDoorPcF
import Derived.Test.YtnjfcaphpemihaaGreatDoorEwL
namespace Pc
open Go Go.Proofs Ev
set_option linter.unusedVariables false
set_option linter.unusedSimpArgs false
set_option maxRecDepth 100000
theorem isels_plain {z : Nat} {d : D} (h : IsEls z d) : d.plain = true := by rcases h with rfl | ⟨l, rfl, _⟩ <;> rfl
theorem goodC_plain {x : List D} (h : GoodC x) : x.all D.plain = true := by
  obtain ⟨n, av, vs, inp, rfl, h1, h2, _⟩ := h
  simp only [List.all_cons, List.all_nil, isels_plain h1.el, isels_plain h2.el]; rfl
theorem goodC_len {x : List D} (h : GoodC x) : x.length = 4 := by obtain ⟨n, av, vs, inp, rfl, h1, h2⟩ := h; rfl
theorem flat_plain {l : List (List D)} (h : ∀ x ∈ l, GoodC x) : l.flatten.all D.plain = true := by
  rw [List.all_eq_true]
  intro d hd
  obtain ⟨x, hx, hdx⟩ := List.mem_flatten.1 hd
  exact List.all_eq_true.1 (goodC_plain (h x hx)) d hdx
def RList (F : List (List D) → List (List D)) (ps : List PW) (v : PV) : Prop := ∃ d, ps = [.c d] ∧ Good 6 GoodO d ∧ (allD (els d)).length ≤ 1000 ∧ v = .w (.c (slD 4 (F (allD (els d)))))
theorem goC_list {E : Env} {f : Nat} {F : List (List D) → List (List D)} {d : D} {s : St} {K : V → St → Prop} (hx : E.ext.get f = some (.fn (ofG (RList F)) [])) (hd : Good 6 GoodO d) (hn : (allD (els d)).length ≤ 1000) (hk : K (.w (.c (slD 4 (F (allD (els d)))).toC)) s) :
    goC E f [.c d.toC] s K :=
  goC_fn (ps := [.c d]) hx ⟨d, rfl, hd, hn, rfl⟩ (by
    rintro v' ⟨d', h1, _, _, rfl⟩
    cases h1; rfl) (by simp [PW.plain, isels_plain hd.el]) hk
theorem list_contract {exts : List (Nat × Ext)} (f : Nat) (F : List (List D) → List (List D)) (hF : ∀ l, (∀ x ∈ l, GoodC x) → ∀ x ∈ F l, GoodC x) (any : Tryz.prog.follows .mixedOrders = true) (ty : typesOk Tryz.prog = true) (fo : kps.all (fun p => fnOk Tryz.prog p.1) = true)
    (hx : ∀ q ∈ exts, ExtOne Tryz.prog Tryz.prog.globals.size q.1 q.2) (hf : (pairT exts .nil).get f = none)
    (h : ∀ d s K, Good 6 GoodO d → (allD (els d)).length ≤ 1000 → (∀ c s', SlAt s' c 4 (F (allD (els d))) → K (vc c) s') → goC (En (pairT exts .nil)) f [.c d.toC] s K) : ExtOne Tryz.prog Tryz.prog.globals.size f (.fn (ofG (RList F)) []) :=
  fn_of_go any ty fo hx hf _ (by
    rintro ps pv ⟨d, rfl, hd, hn, rfl⟩
    refine h d _ _ hd hn fun c s' hc => ?_
    have hg : ∀ x ∈ allD (els d), GoodC x := by
      intro x hx
      obtain ⟨o, ho, hxo⟩ := List.mem_flatMap.1 hx
      obtain ⟨e, st, ot, fl, vr, ca, rfl, _, _, hca⟩ := hd.all o ho
      exact hca.all x hxo
    obtain ⟨bs, hz⟩ := hc.frz (flat_plain (hF _ hg)) (by decide)
    exact ⟨bs, by show (match frzW s'.h.get (.c c) with | some (d, bs) => some (PV.w d, bs) | none => none) = _; simp only [frzW, hz]⟩)
theorem good_all {d : D} (hd : Good 6 GoodO d) : ∀ x ∈ allD (els d), GoodC x := by
  intro x hx
  obtain ⟨o, ho, hxo⟩ := List.mem_flatMap.1 hx
  obtain ⟨e, st, ot, fl, vr, ca, rfl, _, _, hca⟩ := hd.all o ho
  exact hca.all x hxo
theorem good_sl {l : List (List D)} (h : ∀ x ∈ l, GoodC x) (hn : l.length ≤ 1000) : Good 4 GoodC (slD 4 l) ∧ els (slD 4 l) = l := by
  obtain ⟨h1, h2⟩ := slD_els 4 l fun x hx => goodC_len (h x hx)
  exact ⟨⟨h1, by rw [h2]; exact h, by rw [h2]; have : maxLen = 9223372036854775807 := rfl; omega⟩, h2⟩
def RAgain (ps : List PW) (v : PV) : Prop := ∃ d, ∃ i : Nat, ∃ t : Bool, ps = [.c d, .c (.int .i64 (Int.ofNat i))] ∧ Good 4 GoodC d ∧ i < (els d).length ∧ (t = true ↔ againD (els d) i) ∧ v = .w (.c (.bool t))
theorem goC_again {E : Env} {f : Nat} {d : D} {i : Nat} {s : St} {K : V → St → Prop} (hx : E.ext.get f = some (.fn (ofG RAgain) [])) (hd : Good 4 GoodC d) (hi : i < (els d).length) (hk : ∀ t : Bool, (t = true ↔ againD (els d) i) → K (.w (.c (.bool t))) s) :
    goC E f [.c d.toC, .c (.int .i64 (Int.ofNat i))] s K := by
  obtain ⟨t, ht⟩ : ∃ t : Bool, t = true ↔ againD (els d) i := by
    by_cases h : againD (els d) i
    · exact ⟨true, by simp [h]⟩
    · exact ⟨false, by simp [h]⟩
  exact goC_fn (ps := [.c d, .c (.int .i64 (Int.ofNat i))]) hx ⟨d, i, t, rfl, hd, hi, ht, rfl⟩ (by
    rintro v' ⟨d', i', t', h1, _, _, h2, rfl⟩
    simp only [List.cons.injEq, PW.c.injEq, D.int.injEq, true_and, and_true, Int.ofNat.injEq] at h1
    obtain ⟨rfl, rfl⟩ := h1
    have : t' = t := by rw [Bool.eq_iff_iff, h2, ht]
    rw [this]) (by show (and d.plain (and true true)) = true; rw [isels_plain hd.el]; rfl) (hk t ht)
open Classical in
noncomputable def lastP (l : List (List D)) (i : Nat) : List (List D) := (List.range i).filterMap fun j => if againD l j then none else l[j]?
noncomputable def lastD (l : List (List D)) : List (List D) := lastP l l.length
theorem lastP_again {l : List (List D)} {i : Nat} (h : againD l i) : lastP l (i + 1) = lastP l i := by
  unfold lastP
  rw [List.range_succ, List.filterMap_append]
  simp [h]
theorem lastP_not {l : List (List D)} {i : Nat} {x : List D} (h : ¬ againD l i) (hx : l[i]? = some x) : lastP l (i + 1) = lastP l i ++ [x] := by
  unfold lastP
  rw [List.range_succ, List.filterMap_append]
  simp [h, hx]
theorem lastP_le (l : List (List D)) (i : Nat) : (lastP l i).length ≤ i := by
  unfold lastP
  have := List.length_filterMap_le (fun j => open Classical in if againD l j then none else l[j]?) (List.range i)
  simpa using this
theorem lastD_good {l : List (List D)} (h : ∀ x ∈ l, GoodC x) : ∀ x ∈ lastD l, GoodC x := by
  intro x hx
  unfold lastD lastP at hx
  obtain ⟨j, _, hj⟩ := List.mem_filterMap.1 hx
  split at hj
  · cases hj
  · exact h x (List.mem_of_getElem? hj)
theorem lastP_good {l : List (List D)} (h : ∀ x ∈ l, GoodC x) (i : Nat) : ∀ x ∈ lastP l i, GoodC x := by
  intro x hx
  unfold lastP at hx
  obtain ⟨j, _, hj⟩ := List.mem_filterMap.1 hx
  split at hj
  · cases hj
  · exact h x (List.mem_of_getElem? hj)
theorem app_one {E : Env} {t z : Nat} {j : TI} {s : St} {c : C} {ls : List (List D)} {x : List D} (hj : elemTI E t = some j) (hs : j.size = z) (h : SlAt s c z ls) (hx : x.length = z) (hz : 1 ≤ z)
    (hb : (ls.length + 1) * j.bytes ≤ maxBytes) : ∃ c' s', append E t c (.sl s.nx 0 1 (some 1) z) (s.new (.row (mkRow (cellsD x)))) = .ok c' s' ∧ SlAt s' c' z (ls ++ [x]) ∧ Keeps (s.new (.row (mkRow (cellsD x)))) s' c := by
  subst hs
  have h' := SlAt.new h (.row (mkRow (cellsD x)))
  obtain ⟨c', s', h1, h2, h3, _⟩ := app_cells (l := [x]) hj h' (by simpa using hx) hz (newCells_one (q := T.ofL (cellsD x)) (lf := true) (sh := 0) (anc := []) (b := s.nx) (by
    rw [St.new_h]
    show (if s.nx = s.nx then _ else _) = _
    rw [if_pos rfl, mkRow_eq]
    have : (cellsD x).length = j.size := by simp [cellsD, hx]
    rw [this]) (by
    have : (cellsD x).length = j.size := by simp [cellsD, hx]
    rw [← this]; exact T.getL_ofL _) (some 1)) (by simpa using hb)
  exact ⟨c', s', h1, h2, h3⟩
theorem nBuildSlice_eq (E : Env) (a : A) (t n : Nat) (ps : List (Nat × Operand)) (id : Nat) : nBuildSlice E a t n ps id = match partsOf a ps with
  | some l => buildSlice E t n l id
  | none => none := rfl
theorem partsOf_nil (a : A) : partsOf a [] = some [] := rfl
theorem partsOf_cons (a : A) (i : Nat) (x : Operand) (l : List (Nat × Operand)) : partsOf a ((i, x) :: l) = match opW a x with
  | none => none
  | some w => match partsOf a l with
    | none => none
    | some r => some ((i, w) :: r) := rfl
theorem i64_1000 {i n : Nat} (h : i < n) (hn : n ≤ 1000) : wrapK .i64 (Int.ofNat i + 1) = Int.ofNat (i + 1) := nat_succ (by omega)
theorem refCalls26 (X : T Ext) (hX : (En X).ext.get 9 = none) (h15 : (En X).ext.get 16 = some (.fn (ofG (RList fun l => l)) [])) (h22 : (En X).ext.get 17 = some (.fn (ofG RAgain) [])) (d : D) (s : St) (hd : Good 6 GoodO d) (hn : (allD (els d)).length ≤ 1000) (K : V → St → Prop)
    (hK : ∀ c s', SlAt s' c 4 (lastD (allD (els d))) → K (vc c) s') : goC (En X) 9 [.c d.toC] s K := by
  refine goC_body hX (kp9 X) (fn9 X) rfl (by kernel_rfl) ?_
  obtain ⟨ga, ea⟩ := good_sl (good_all hd) hn
  simp only [zEV, Nat.reduceShiftRight, Nat.reduceMod, Nat.reduceEqDiff, Nat.reduceAdd, ↓reduceIte, reduceCtorEq]
  refine go_call _ _ _ _ _ _ (ws := [.c d.toC]) rfl (by simp only [zEA, Nat.reduceShiftRight, Nat.reduceMod, Nat.reduceEqDiff, Nat.reduceAdd, ↓reduceIte, reduceCtorEq, argsOf_cons, argsOf_nil]) ?_
  refine goC_list h15 hd hn ?_
  have hn := hn
  generalize allD (els d) = l at *
  generalize slD 4 l = b at *
  subst ea
  have hl : ∀ look, len (En X) 26 look b.toC = some (els b).length := fun look => len_els (us26 X) ga.el
  simp only [zEV, Nat.reduceShiftRight, Nat.reduceMod, Nat.reduceEqDiff, Nat.reduceAdd, ↓reduceIte, reduceCtorEq]
  refine go_loop (goL_inv (fun n a s' => ∃ i c, n = (els b).length - i ∧ i ≤ (els b).length ∧ Has a 3 (vc b.toC) ∧ Has a 4 (vc c) ∧ Has a 5 (vc (.int .i64 (Int.ofNat i))) ∧ SlAt s' c 4 (lastP (els b) i)) (n := (els b).length)
    ⟨0, .nils, rfl, Nat.zero_le _, ⟨rfl, rfl⟩, ⟨rfl, rfl⟩, ⟨rfl, rfl⟩, SlAt.nil s 4⟩ ?_)
  rintro n a s' ⟨i, c, rfl, hi, ⟨g3, k3⟩, ⟨g4, k4⟩, ⟨g5, k5⟩, hsl⟩
  by_cases hlt : i < (els b).length
  · obtain ⟨x, hx⟩ : ∃ x, (els b)[i]? = some x := ⟨_, List.getElem?_eq_getElem hlt⟩
    have hix := index_els (us26 X) (sz38 X) ga.el hx
    have hgx := ga.all x (List.mem_of_getElem? hx)
    have hsu := i64_1000 hlt hn
    simp only [zEV, Nat.reduceShiftRight, Nat.reduceMod, Nat.reduceEqDiff, Nat.reduceAdd, ↓reduceIte, reduceCtorEq, g3, k3, g4, k4, g5, k5, hl, lt_true hlt]
    refine go_call _ _ _ _ _ _ (ws := [.c b.toC, .c (.int .i64 (Int.ofNat i))]) rfl (by simp only [zEA, Nat.reduceShiftRight, Nat.reduceMod, Nat.reduceEqDiff, Nat.reduceAdd, ↓reduceIte, reduceCtorEq, argsOf_cons, argsOf_nil, k3, k5]) ?_
    refine goC_again h22 ga hlt fun t ht => ?_
    cases t with
    | true =>
      simp only [zEV, Nat.reduceShiftRight, Nat.reduceMod, Nat.reduceEqDiff, Nat.reduceAdd, ↓reduceIte, reduceCtorEq, g3, k3, g4, k4, g5, k5, hl, hsu]
      refine ⟨_, ?_, i + 1, c, rfl, hlt, ⟨?_, ?_⟩, ⟨?_, ?_⟩, ⟨?_, ?_⟩, ?_⟩
      all_goals first | (simp only [zEA, Nat.reduceShiftRight, Nat.reduceMod, Nat.reduceEqDiff, Nat.reduceAdd, ↓reduceIte, reduceCtorEq, g3, k3, g4, k4]; done) | skip
      · omega
      · rw [lastP_again (ht.1 rfl)]; exact hsl
    | false =>
      have hna : ¬ againD (els b) i := fun h => by have := ht.2 h; cases this
      have hlp := lastP_le (els b) i
      obtain ⟨c', s2, happ, hsl2, _⟩ := app_one (el26 X) ti38.1 hsl (goodC_len hgx) (by decide) (by
        rw [ti38.2]
        have : maxBytes = 140737488355328 := rfl
        omega)
      obtain ⟨nn, av, vs, inp, rfl, _, _⟩ := hgx
      simp only [cellsD_cons, cellsD_nil, toC_int, toC_strD] at happ
      simp only [zEV, Nat.reduceShiftRight, Nat.reduceMod, Nat.reduceEqDiff, Nat.reduceAdd, ↓reduceIte, reduceCtorEq, g3, k3, g4, k4, g5, k5, hl, hsu, hix, ld38, ldA, cellsD_cons, cellsD_nil, toC_int, toC_strD, List.drop_zero, List.take_succ_cons, List.take_zero, List.length_cons, List.length_nil, Nat.zero_add, Nat.le_refl, nBuildSlice_eq, partsOf_cons, partsOf_nil, bS26_1, us26, happ]
      refine ⟨_, ?_, i + 1, c', rfl, hlt, ⟨?_, ?_⟩, ⟨?_, ?_⟩, ⟨?_, ?_⟩, ?_⟩
      all_goals first | (simp only [zEA, Nat.reduceShiftRight, Nat.reduceMod, Nat.reduceEqDiff, Nat.reduceAdd, ↓reduceIte, reduceCtorEq, g3, k3, g4, k4]; done) | skip
      · omega
      · rw [lastP_not hna hx]; exact hsl2
  · simp only [zEV, Nat.reduceShiftRight, Nat.reduceMod, Nat.reduceEqDiff, Nat.reduceAdd, ↓reduceIte, reduceCtorEq, g3, k3, g4, k4, g5, k5, hl, lt_false hlt]
    have : i = (els b).length := by omega
    subst this
    exact hK c s' hsl
end Pc
