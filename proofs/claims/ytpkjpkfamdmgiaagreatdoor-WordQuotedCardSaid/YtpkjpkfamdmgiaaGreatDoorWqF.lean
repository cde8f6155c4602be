import Derived.Test.YtpkjpkfamdmgiaaGreatDoorWqE
import Derived.Test.YtpkjpkfamdmgiaaGreatDoorEwL
namespace Ws
open Go Go.Proofs Ev Wq
set_option linter.unusedVariables false
set_option linter.unusedSimpArgs false
set_option linter.unnecessarySimpa false
set_option maxRecDepth 100000
def ofR (l : List Nat) : List (Nat × Bool) := l.map (withQ false)
theorem rl_rL (v : List UInt8) : ∀ f i, rl (Str.ofL v) f i = rL f (v.drop i)
  | 0, _ => rfl
  | f + 1, i => by
    unfold rl
    by_cases h : i < v.length
    · have hd : v.drop i = v[i] :: v.drop (i + 1) := List.drop_eq_getElem_cons h
      rw [if_pos (show i < (Str.ofL v).len from h), dec_L h, rl_rL v f, hd]
      show _ = (decL (v[i] :: v.drop (i + 1))).1 :: rL f ((v[i] :: v.drop (i + 1)).drop (decL (v[i] :: v.drop (i + 1))).2)
      rw [← hd, List.drop_drop]
    · rw [if_neg (show ¬ i < (Str.ofL v).len from h), List.drop_eq_nil_of_le (by omega), rL_nil]
theorem runes_eq (v : List UInt8) : runes v = runesL v := by
  unfold runes runesL
  rw [rl_rL, List.drop_zero]
theorem blank46 (X : T Ext) (hX : (En X).ext.get 46 = none) (r : Nat) (s : St) (K : V → St → Prop) (hK : K (.w (.c (.bool (blN r)))) s) : goC (En X) 46 [.c (.int .i32 (Int.ofNat r))] s K := by
  refine goC_body hX (kp46 X) (fn46 X) rfl (by kernel_rfl) ?_
  have hres : Tryz.f46.results.toList = [.tmp 2] := rfl
  unfold blN at hK
  by_cases h1 : r = 32
  · have e1 : (Int.ofNat r = 32) = True := eq_true (by subst h1; rfl)
    rw [show (Nat.beq r 32 || Nat.beq r 9 || Nat.beq r 10) = true by subst h1; rfl] at hK
    simp only [zEV, Nat.reduceShiftRight, Nat.reduceMod, Nat.reduceEqDiff, Nat.reduceAdd, ↓reduceIte, reduceCtorEq, e1, hres]
    exact hK
  · have e1 : (Int.ofNat r = 32) = False := eq_false (by show ¬ ((r : Nat) : Int) = 32; omega)
    have b1 : Nat.beq r 32 = false := by cases h : Nat.beq r 32 with | false => rfl | true => exact absurd (Nat.eq_of_beq_eq_true h) h1
    by_cases h2 : r = 9
    · have e2 : (Int.ofNat r = 9) = True := eq_true (by subst h2; rfl)
      rw [show (Nat.beq r 32 || Nat.beq r 9 || Nat.beq r 10) = true by subst h2; rfl] at hK
      simp only [zEV, Nat.reduceShiftRight, Nat.reduceMod, Nat.reduceEqDiff, Nat.reduceAdd, ↓reduceIte, reduceCtorEq, e1, e2, hres]
      exact hK
    · have e2 : (Int.ofNat r = 9) = False := eq_false (by show ¬ ((r : Nat) : Int) = 9; omega)
      have b2 : Nat.beq r 9 = false := by cases h : Nat.beq r 9 with | false => rfl | true => exact absurd (Nat.eq_of_beq_eq_true h) h2
      by_cases h3 : r = 10
      · have e3 : (Int.ofNat r = 10) = True := eq_true (by subst h3; rfl)
        rw [show (Nat.beq r 32 || Nat.beq r 9 || Nat.beq r 10) = true by subst h3; rfl] at hK
        simp only [zEV, Nat.reduceShiftRight, Nat.reduceMod, Nat.reduceEqDiff, Nat.reduceAdd, ↓reduceIte, reduceCtorEq, e1, e2, e3, hres]
        exact hK
      · have e3 : (Int.ofNat r = 10) = False := eq_false (by show ¬ ((r : Nat) : Int) = 10; omega)
        have b3 : Nat.beq r 10 = false := by cases h : Nat.beq r 10 with | false => rfl | true => exact absurd (Nat.eq_of_beq_eq_true h) h3
        rw [b1, b2, b3] at hK
        simp only [zEV, Nat.reduceShiftRight, Nat.reduceMod, Nat.reduceEqDiff, Nat.reduceAdd, ↓reduceIte, reduceCtorEq, e1, e2, e3, hres]
        exact hK
theorem bu65_0 (X : T Ext) (c : C) : build (En X) 65 [(0, .c c)] = some (.agg [c, .bool false]) := by kernel_rfl
theorem nodup_len {l : List Nat} : (ofR l).length = l.length := by unfold ofR; rw [List.length_map]
def fin (ls : List (List Nat)) (now : List Nat) : List (List Nat) := if now.isEmpty then ls else ls ++ [now]
theorem plain30 (X : T Ext) (hX : (En X).ext.get 30 = none) (h27 : (En X).ext.get 27 = none) (h28 : (En X).ext.get 28 = none) (h46 : (En X).ext.get 46 = none) (v : List UInt8) (hv : v.length ≤ 1000) {S : St} {b : Nat} {P : Nat → Prop} (h : Mk S b P [] [] false) (K : V → St → Prop)
    (hK : ∀ (S' : St) (ls : List (List Nat)) (now : List Nat), S.nx ≤ S'.nx → fin ls now = grp blN [] (runesL v) → ls.length ≤ 1000 → Mk S' b P (ls.map ofR) (ofR now) (!now.isEmpty) → (∀ x, P x → S'.h.get x = S.h.get x) → K (.tup []) S') :
    goC (En X) 30 [.c (.ptr b 0), .agg [.str (Str.ofL v), .bool false, .bool true, .bool false]] S K := by
  refine goC_body hX (kp30 X) (fn30 X) rfl (by kernel_rfl) ?_
  have hres : Tryz.f30.results.toList = [] := rfl
  have hP : ∀ x, P x → x < S.nx := by obtain ⟨_, _, _, _, _, g, _⟩ := h; exact g
  have q0 := LRow.new S [.str (Str.ofL v), .bool false, .bool true, .bool false]
  have n0 : (S.new (.row (mkRow [.str (Str.ofL v), .bool false, .bool true, .bool false]))).nx = S.nx + 1 := St.new_nx _ _
  have o0 : ∀ x, x < S.nx → (S.new (.row (mkRow [.str (Str.ofL v), .bool false, .bool true, .bool false]))).h.get x = S.h.get x := fun x hx => new_old S _ hx
  have c0 : ldHC (S.new (.row (mkRow [.str (Str.ofL v), .bool false, .bool true, .bool false]))).h.get S.nx 0 = some (.c (.str (Str.ofL v))) := q0.ldC rfl
  simp only [zEV, Nat.reduceShiftRight, Nat.reduceMod, Nat.reduceEqDiff, Nat.reduceAdd, ↓reduceIte, reduceCtorEq, fA_80_0, ldh9, c0]
  generalize S.new (.row (mkRow [.str (Str.ofL v), .bool false, .bool true, .bool false])) = S0 at q0 n0 o0 ⊢
  have it1 : (S0.new (.iter (Str.ofL v) 0)).h.get S0.nx = some (.iter (Str.ofL v) 0) := by
    rw [St.new_h]
    show (if S0.nx = S0.nx then _ else _) = _
    rw [if_pos rfl]
  have n1 : (S0.new (.iter (Str.ofL v) 0)).nx = S0.nx + 1 := St.new_nx _ _
  have o1 : ∀ x, x < S0.nx → (S0.new (.iter (Str.ofL v) 0)).h.get x = S0.h.get x := fun x hx => new_old S0 _ hx
  simp only [zEV, Nat.reduceShiftRight, Nat.reduceMod, Nat.reduceEqDiff, Nat.reduceAdd, ↓reduceIte, reduceCtorEq, go_range, nRange_eq]
  generalize S0.new (.iter (Str.ofL v) 0) = S1 at it1 n1 o1 ⊢
  have q1 := q0.keep (o1 S.nx (by omega))
  have m1 : Mk S1 b (fun x => x = S.nx ∨ x = S0.nx ∨ P x) [] [] false := h.keep (by omega) (fun x hx _ => (o1 x (by omega)).trans (o0 x hx)) (fun x hx => by
    rcases hx with rfl | rfl | hx
    · exact .inr (Nat.le_refl _)
    · exact .inr (by omega)
    · exact .inl hx) (fun x hx => by
    rcases hx with rfl | rfl | hx
    · omega
    · omega
    · have := hP x hx; omega)
  have hPo : ∀ x, P x → S1.h.get x = S.h.get x := fun x hx => (o1 x (by have := hP x hx; omega)).trans (o0 x (hP x hx))
  generalize hr0 : S.nx = r0 at *
  generalize hp : S0.nx = p at *
  refine go_loop (goL_inv (fun n' a' s' => ∃ i ls now, n' = v.length - i ∧ i ≤ v.length ∧ ls.length + now.length ≤ i ∧ Has a' 0 (vc (.ptr b 0)) ∧ Has a' 3 (vc (.ptr r0 0)) ∧ Has a' 8 (vc (.ptr p 0)) ∧ s'.h.get p = some (.iter (Str.ofL v) i) ∧ LRow s' r0 [.str (Str.ofL v), .bool false, .bool true, .bool false] ∧
      Mk s' b (fun x => x = r0 ∨ x = p ∨ P x) (ls.map ofR) (ofR now) (!now.isEmpty) ∧ ls ++ grp blN now (runesL (v.drop i)) = grp blN [] (runesL v) ∧ (∀ x, P x → s'.h.get x = S.h.get x) ∧ S1.nx ≤ s'.nx) (n := v.length)
    ⟨0, [], [], rfl, Nat.zero_le _, Nat.zero_le _, ⟨rfl, rfl⟩, ⟨rfl, rfl⟩, ⟨rfl, rfl⟩, it1, q1, m1, by rw [List.drop_zero]; rfl, hPo, Nat.le_refl _⟩ ?_)
  rintro n' a' s' ⟨i, ls, now, rfl, hi, hln, ⟨g0, k0⟩, ⟨g3, k3⟩, ⟨g8, k8⟩, hit, hq, hm, hg, hpo, hnx⟩
  by_cases hlt : i < v.length
  · have hnext := next_at hit (show i < (Str.ofL v).len from hlt)
    rw [dec_L hlt] at hnext
    have hd : v.drop i = v[i] :: v.drop (i + 1) := List.drop_eq_getElem_cons hlt
    have hw := decL_w (v.drop i) (by rw [hd]; exact List.cons_ne_nil _ _)
    rw [List.length_drop] at hw
    have hrun : runesL (v.drop i) = (decL (v.drop i)).1 :: runesL (v.drop (i + (decL (v.drop i)).2)) := by
      rw [hd, runesL_cons, ← hd, List.drop_drop]
    rw [hrun] at hg
    generalize (decL (v.drop i)).1 = r at *
    generalize (decL (v.drop i)).2 = w at *
    simp only [zEV, Nat.reduceShiftRight, Nat.reduceMod, Nat.reduceEqDiff, Nat.reduceAdd, ↓reduceIte, reduceCtorEq, g0, k0, g3, k3, g8, k8, go_next, aNext_eq, hnext]
    have s2p : (⟨s'.h.set p (.iter (Str.ofL v) (i + w)), s'.nx⟩ : St).h.get p = some (.iter (Str.ofL v) (i + w)) := T.get_set_same _ _ _
    have s2o : ∀ x, x ≠ p → (⟨s'.h.set p (.iter (Str.ofL v) (i + w)), s'.nx⟩ : St).h.get x = s'.h.get x := fun x hx => T.get_set_ne _ _ hx
    have s2n : (⟨s'.h.set p (.iter (Str.ofL v) (i + w)), s'.nx⟩ : St).nx = s'.nx := rfl
    generalize (⟨s'.h.set p (.iter (Str.ofL v) (i + w)), s'.nx⟩ : St) = S2 at s2p s2o s2n ⊢
    have hPp : ∀ x, P x → x ≠ p := fun x hx e => by have := hP x hx; omega
    have q2 := hq.keep (s2o r0 (by omega))
    have m2 : Mk S2 b (fun x => x = r0 ∨ x = p ∨ P x) (ls.map ofR) (ofR now) (!now.isEmpty) := hm.keep (by omega) (fun x hx hn => s2o x fun e => hn (.inr (.inl e))) (fun x hx => .inl hx) (fun x hx => by
      rcases hx with rfl | rfl | hx
      · omega
      · omega
      · have := hP x hx; omega)
    have c2 : ldHC S2.h.get r0 2 = some (.c (.bool true)) := q2.ldC rfl
    simp only [zEV, Nat.reduceShiftRight, Nat.reduceMod, Nat.reduceEqDiff, Nat.reduceAdd, ↓reduceIte, reduceCtorEq, g0, k0, g3, k3, g8, k8, fA_80_2, ldh4, c2]
    refine go_call _ _ _ _ _ _ (ws := [.c (.int .i32 (Int.ofNat r))]) rfl (by simp only [zEV, Nat.reduceShiftRight, Nat.reduceMod, Nat.reduceEqDiff, Nat.reduceAdd, ↓reduceIte, reduceCtorEq, g0, k0, g3, k3, g8, k8, argsOf_cons, argsOf_nil]) ?_
    refine blank46 X h46 r S2 _ ?_
    cases hbl : blN r with
    | true =>
      simp only [zEV, Nat.reduceShiftRight, Nat.reduceMod, Nat.reduceEqDiff, Nat.reduceAdd, ↓reduceIte, reduceCtorEq, g0, k0, g3, k3, g8, k8, hbl]
      refine go_call _ _ _ _ _ _ (ws := [.c (.ptr b 0)]) rfl (by simp only [zEV, Nat.reduceShiftRight, Nat.reduceMod, Nat.reduceEqDiff, Nat.reduceAdd, ↓reduceIte, reduceCtorEq, g0, k0, g3, k3, g8, k8, argsOf_cons, argsOf_nil]) ?_
      refine ends27 X h27 m2 (by rw [List.length_map]; omega) _ fun S4 n4 m4 p4 => ?_
      simp only [zEV, Nat.reduceShiftRight, Nat.reduceMod, Nat.reduceEqDiff, Nat.reduceAdd, ↓reduceIte, reduceCtorEq, g0, k0, g3, k3, g8, k8]
      have hls : endL (ls.map ofR) (ofR now) (!now.isEmpty) = (fin ls now).map ofR := by
        unfold endL fin
        cases now with
        | nil => rfl
        | cons a l => simp
      rw [hls] at m4
      have hg2 : fin ls now ++ grp blN [] (runesL (v.drop (i + w))) = grp blN [] (runesL v) := by
        rw [← hg]
        unfold fin
        show _ = ls ++ (if blN r then (if now.isEmpty then grp blN [] (runesL (v.drop (i + w))) else now :: grp blN [] (runesL (v.drop (i + w)))) else grp blN (now ++ [r]) (runesL (v.drop (i + w))))
        rw [if_pos hbl]
        cases now <;> simp
      have hfl : (fin ls now).length ≤ ls.length + 1 := by unfold fin; split <;> simp
      refine ⟨_, ?_, i + w, fin ls now, [], rfl, by omega, by simp only [List.length_nil]; omega, ⟨?_, ?_⟩, ⟨?_, ?_⟩, ⟨?_, ?_⟩, (p4 p (.inr (.inl rfl))).trans s2p, q2.keep (p4 r0 (.inl rfl)), m4, hg2, fun x hx => (p4 x (.inr (.inr hx))).trans ((s2o x (hPp x hx)).trans (hpo x hx)), by omega⟩
      all_goals first | (simp only [zEA, Nat.reduceShiftRight, Nat.reduceMod, Nat.reduceEqDiff, Nat.reduceAdd, ↓reduceIte, reduceCtorEq, g0, k0, g3, k3, g8, k8]; done) | omega
    | false =>
      have r3 : (S2.new (.row (mkRow [.int .i32 (Int.ofNat r), .bool false]))).h.get S2.nx = some (.row ⟨T.ofL [.int .i32 (Int.ofNat r), .bool false], 2, true, 0, []⟩) := by rw [row_newC, mkRow_eq]; rfl
      have n3 : (S2.new (.row (mkRow [.int .i32 (Int.ofNat r), .bool false]))).nx = S2.nx + 1 := St.new_nx _ _
      have o3 : ∀ x, x < S2.nx → (S2.new (.row (mkRow [.int .i32 (Int.ofNat r), .bool false]))).h.get x = S2.h.get x := fun x hx => new_old S2 _ hx
      simp only [zEV, Nat.reduceShiftRight, Nat.reduceMod, Nat.reduceEqDiff, Nat.reduceAdd, ↓reduceIte, reduceCtorEq, g0, k0, g3, k3, g8, k8, hbl, rBuild_eq, partsOf_cons, partsOf_nil, bu65_0, nBuildSlice_eq, bS40_1]
      generalize S2.new (.row (mkRow [.int .i32 (Int.ofNat r), .bool false])) = S3 at r3 n3 o3 ⊢
      have m3 : Mk S3 b (fun x => x = r0 ∨ x = p ∨ P x) (ls.map ofR) (ofR now) (!now.isEmpty) := m2.keep (by omega) (fun x hx _ => o3 x hx) (fun x hx => .inl hx) (fun x hx => by
        rcases hx with rfl | rfl | hx
        · omega
        · omega
        · have := hP x hx; omega)
      have hn := newCells_one (z := 2) (x := elC (r, false)) r3 (T.getL_ofL _) (some 1)
      have hy : newCells S3.h.get 2 (.sl S2.nx 0 1 (some 1) 2) = some ([(r, false)].length, cellsD ([(r, false)].map elC).flatten) := hn
      refine go_call _ _ _ _ _ _ (ws := [.c (.ptr b 0), .c (.sl S2.nx 0 1 (some 1) 2)]) rfl (by simp only [zEV, Nat.reduceShiftRight, Nat.reduceMod, Nat.reduceEqDiff, Nat.reduceAdd, ↓reduceIte, reduceCtorEq, g0, k0, g3, k3, g8, k8, argsOf_cons, argsOf_nil]) ?_
      refine puts28 X h28 m3 (l := [(r, false)]) hy (by rw [nodup_len]; simp only [List.length_cons, List.length_nil]; omega) _ fun S4 n4 m4 p4 => ?_
      simp only [zEV, Nat.reduceShiftRight, Nat.reduceMod, Nat.reduceEqDiff, Nat.reduceAdd, ↓reduceIte, reduceCtorEq, g0, k0, g3, k3, g8, k8]
      have hnow : ofR now ++ [(r, false)] = ofR (now ++ [r]) := by unfold ofR; rw [List.map_append]; rfl
      rw [hnow] at m4
      have hne : (!(now ++ [r]).isEmpty) = true := by cases now <;> rfl
      have hg2 : ls ++ grp blN (now ++ [r]) (runesL (v.drop (i + w))) = grp blN [] (runesL v) := by
        rw [← hg]
        show _ = ls ++ (if blN r then (if now.isEmpty then grp blN [] (runesL (v.drop (i + w))) else now :: grp blN [] (runesL (v.drop (i + w)))) else grp blN (now ++ [r]) (runesL (v.drop (i + w))))
        rw [if_neg (by rw [hbl]; simp)]
      refine ⟨_, ?_, i + w, ls, now ++ [r], rfl, by omega, by simp only [List.length_append, List.length_cons, List.length_nil]; omega, ⟨?_, ?_⟩, ⟨?_, ?_⟩, ⟨?_, ?_⟩, (p4 p (.inr (.inl rfl))).trans ((o3 p (by omega)).trans s2p), q2.keep ((p4 r0 (.inl rfl)).trans (o3 r0 (by omega))), by rw [hne]; exact m4, hg2, fun x hx => (p4 x (.inr (.inr hx))).trans ((o3 x (by have := hP x hx; omega)).trans ((s2o x (hPp x hx)).trans (hpo x hx))), by omega⟩
      all_goals first | (simp only [zEA, Nat.reduceShiftRight, Nat.reduceMod, Nat.reduceEqDiff, Nat.reduceAdd, ↓reduceIte, reduceCtorEq, g0, k0, g3, k3, g8, k8]; done) | omega
  · have hnext := next_end hit (show ¬ i < (Str.ofL v).len from hlt)
    have hend : v.drop i = [] := List.drop_eq_nil_of_le (by omega)
    rw [hend, runesL_nil] at hg
    simp only [zEV, Nat.reduceShiftRight, Nat.reduceMod, Nat.reduceEqDiff, Nat.reduceAdd, ↓reduceIte, reduceCtorEq, g0, k0, g3, k3, g8, k8, go_next, aNext_eq, hnext, hres]
    refine hK s' ls now (by omega) ?_ (by omega) (hm.keep (Nat.le_refl _) (fun x hx _ => rfl) (fun x hx => .inl (.inr (.inr hx))) (fun x hx => by have := hP x hx; omega)) hpo
    rw [← hg]
    unfold fin
    cases now <;> simp [grp]
end Ws
