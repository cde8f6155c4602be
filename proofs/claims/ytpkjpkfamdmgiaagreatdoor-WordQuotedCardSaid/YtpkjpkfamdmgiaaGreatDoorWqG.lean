import Derived.Test.YtpkjpkfamdmgiaaGreatDoorWqF
import Derived.Test.YtpkjpkfamdmgiaaGreatDoorEwL
namespace Ws
open Go Go.Proofs Ev Wq
set_option linter.unusedVariables false
set_option linter.unusedSimpArgs false
set_option linter.unnecessarySimpa false
set_option maxRecDepth 100000
def fieldsV (v : List UInt8) (q : Bool) : List (List (Nat × Bool)) := if q = true then [charsOf v true] else (grp blN [] (runesL v)).map ofR
def rnV (v : List UInt8) (q : Bool) : Rn := ⟨v, q, !q⟩
theorem bu78 (X : T Ext) : build (En X) 78 [] = some (.agg [.nils, .nils, .bool false]) := by kernel_rfl
theorem endL_fin (ls : List (List Nat)) (now : List Nat) : endL (ls.map ofR) (ofR now) (!now.isEmpty) = (fin ls now).map ofR := by
  unfold endL fin
  cases now with
  | nil => rfl
  | cons a l => simp
theorem fields17 (X : T Ext) (hX : (En X).ext.get 17 = none) (h27 : (En X).ext.get 27 = none) (h28 : (En X).ext.get 28 = none) (h30 : (En X).ext.get 30 = none) (h46 : (En X).ext.get 46 = none) (h29 : (En X).ext.get 29 = some (.fn (ofG RChars) [])) (v : List UInt8) (q : Bool) (hv : v.length ≤ 1000) (s : St) (K : V → St → Prop)
    (hK : ∀ lc s', (∃ bs, frzC s'.h.get 2000 lc = some (slD 1 ((fieldsV v q).map fun l => [chD l]), bs)) → K (vc lc) s') : goC (En X) 17 [.c (.dat 4 [elN (rnV v q)])] s K := by
  refine goC_body hX (kp17 X) (fn17 X) rfl (by kernel_rfl) ?_
  have hres : Tryz.f17.results.toList = [.tmp 2] := rfl
  have hie : IsEls 4 (.sl 4 [elN (rnV v q)]) := .inr ⟨_, rfl, elN_four [rnV v q]⟩
  have hlen : ∀ look, len (En X) 50 look (.dat 4 [elN (rnV v q)]) = some 1 := fun look => len_els (look := look) (us50 X) hie
  have q0 := LRow.new s [.nils, .nils, .bool false]
  have n0 : (s.new (.row (mkRow [.nils, .nils, .bool false]))).nx = s.nx + 1 := St.new_nx _ _
  simp only [zEV, Nat.reduceShiftRight, Nat.reduceMod, Nat.reduceEqDiff, Nat.reduceAdd, ↓reduceIte, reduceCtorEq, hlen, rBuild_eq, partsOf_nil, bu78]
  generalize s.new (.row (mkRow [.nils, .nils, .bool false])) = S0 at q0 n0 ⊢
  have m0 : Mk S0 s.nx (fun _ => False) [] [] false := ⟨.nils, .nils, [], q0, by omega, fun x h => h.elim, fun h => h, SlP.nil _, SlAt.nil _ _, .nil, fun x h => absurd h (rw_nils x), fun x h => absurd h (rw_nils x), fun c h => by cases h⟩
  generalize hb : s.nx = b at *
  have hdv : fieldsV v q = fieldsV v q := rfl
  have hix : indexAddr (En X) 50 (.dat 4 [elN (rnV v q)]) (Int.ofNat 0) = some (.dp (elN (rnV v q)) 0) := index_els (us50 X) (sz80 X) hie rfl
  generalize hd : C.dat 4 [elN (rnV v q)] = dc at *
  refine go_loop (goL_inv (fun n' a' s' => ∃ i, n' = 1 - i ∧ i ≤ 1 ∧ Has a' 3 (vc (.ptr b 0)) ∧ Has a' 8 (vc dc) ∧ Has a' 9 (vc (.int .i64 1)) ∧ Has a' 10 (vc (.int .i64 (Int.ofNat i))) ∧ ((i = 0 ∧ Mk s' b (fun _ => False) [] [] false) ∨ (i = 1 ∧ ∃ ls now bg, Mk s' b (fun _ => False) ls now bg ∧ endL ls now bg = fieldsV v q ∧ ls.length ≤ 1000))) (n := 1)
    ⟨0, rfl, Nat.zero_le _, ⟨rfl, rfl⟩, ⟨rfl, rfl⟩, ⟨rfl, rfl⟩, ⟨rfl, rfl⟩, .inl ⟨rfl, m0⟩⟩ ?_)
  rintro n' a' s' ⟨i, rfl, hi, ⟨g3, k3⟩, ⟨g8, k8⟩, ⟨g9, k9⟩, ⟨g10, k10⟩, h⟩
  rcases h with ⟨rfl, hm⟩ | ⟨rfl, ls, now, bg, hm, he, hl⟩
  · have hlt' : (Int.ofNat 0 < 1) = True := eq_true (by decide)
    have hsu := nat_succ (show 0 < 9223372036854775807 by omega)
    have ld : loadD (En X) 80 (elN (rnV v q)) 0 = some (.agg (cellsD (elN (rnV v q)))) := by rw [ld80]; rfl
    obtain ⟨s2, w2, r2, n2, o2⟩ := row_written s' [.str ⟨0, 0⟩, .bool false, .bool false, .bool false] (cellsD (elN (rnV v q))) rfl
    have c3 : ldHC s2.h.get s'.nx 3 = some (.c (.bool false)) := r2.ldC rfl
    have c0 : ldHC s2.h.get s'.nx 0 = some (.c (.str (Str.ofL v))) := r2.ldC rfl
    have c1 : ldHC s2.h.get s'.nx 1 = some (.c (.bool q)) := r2.ldC rfl
    have ca : ldHA 4 s2.h.get s'.nx 0 = some (.agg (cellsD (elN (rnV v q)))) := r2.ldA
    have m2 : Mk s2 b (fun _ => False) [] [] false := hm.keep (by omega) (fun x hx _ => o2 x hx) (fun x h => h.elim) (fun x h => h.elim)
    simp only [zEV, Nat.reduceShiftRight, Nat.reduceMod, Nat.reduceEqDiff, Nat.reduceAdd, ↓reduceIte, reduceCtorEq, g3, k3, g8, k8, g9, k9, g10, k10, hlt', hix, ld, al80, st80, show (cellsD (elN (rnV v q))).length = 4 from rfl, w2, fA_80_3, fA_80_0, fA_80_1, ldh4, ldh9, c3, c0, c1]
    cases q with
    | true =>
      simp only [zEV, Nat.reduceShiftRight, Nat.reduceMod, Nat.reduceEqDiff, Nat.reduceAdd, ↓reduceIte, reduceCtorEq, g3, k3, g8, k8, g9, k9, g10, k10, fA_80_0, ldh9, c0]
      refine go_call _ _ _ _ _ _ (ws := [.c (.str (Str.ofL v)), .c (.bool true)]) rfl (by simp only [zEV, Nat.reduceShiftRight, Nat.reduceMod, Nat.reduceEqDiff, Nat.reduceAdd, ↓reduceIte, reduceCtorEq, g3, k3, argsOf_cons, argsOf_nil]) ?_
      refine goC_of (callR_chars h29 v true hv s2) ?_
      simp only [zEV, Nat.reduceShiftRight, Nat.reduceMod, Nat.reduceEqDiff, Nat.reduceAdd, ↓reduceIte, reduceCtorEq, g3, k3, g8, k8, g9, k9, g10, k10]
      have hcl := chars_len v true
      refine go_call _ _ _ _ _ _ (ws := [.c (.ptr b 0), .c (slD 2 ((charsOf v true).map elC)).toC]) rfl (by simp only [zEV, Nat.reduceShiftRight, Nat.reduceMod, Nat.reduceEqDiff, Nat.reduceAdd, ↓reduceIte, reduceCtorEq, g3, k3, argsOf_cons, argsOf_nil]) ?_
      refine puts28 X h28 m2 (l := charsOf v true) (by have := newCells_els (look := s2.h.get) (isEls_slD (elC_two (charsOf v true))); rw [els_slD, List.length_map] at this; exact this) (by rw [List.length_nil]; omega) _ fun S4 n4 m4 p4 => ?_
      simp only [zEV, Nat.reduceShiftRight, Nat.reduceMod, Nat.reduceEqDiff, Nat.reduceAdd, ↓reduceIte, reduceCtorEq, g3, k3, g8, k8, g9, k9, g10, k10, hsu]
      refine ⟨_, ?_, 1, rfl, Nat.le_refl _, ⟨?_, ?_⟩, ⟨?_, ?_⟩, ⟨?_, ?_⟩, ⟨?_, ?_⟩, .inr ⟨rfl, _, _, _, m4, rfl, by simp⟩⟩
      all_goals first | (simp only [zEA, Nat.reduceShiftRight, Nat.reduceMod, Nat.reduceEqDiff, Nat.reduceAdd, ↓reduceIte, reduceCtorEq, g3, k3, g8, k8, g9, k9, g10, k10]; done) | omega
    | false =>
      simp only [zEV, Nat.reduceShiftRight, Nat.reduceMod, Nat.reduceEqDiff, Nat.reduceAdd, ↓reduceIte, reduceCtorEq, g3, k3, g8, k8, g9, k9, g10, k10, ldh80, ca]
      refine go_call _ _ _ _ _ _ (ws := [.c (.ptr b 0), .agg [.str (Str.ofL v), .bool false, .bool true, .bool false]]) rfl (by simp only [zEV, Nat.reduceShiftRight, Nat.reduceMod, Nat.reduceEqDiff, Nat.reduceAdd, ↓reduceIte, reduceCtorEq, g3, k3, argsOf_cons, argsOf_nil]; rfl) ?_
      refine plain30 X h30 h27 h28 h46 v hv m2 _ fun S4 ls now n4 hf hll m4 p4 => ?_
      simp only [zEV, Nat.reduceShiftRight, Nat.reduceMod, Nat.reduceEqDiff, Nat.reduceAdd, ↓reduceIte, reduceCtorEq, g3, k3, g8, k8, g9, k9, g10, k10, hsu]
      refine ⟨_, ?_, 1, rfl, Nat.le_refl _, ⟨?_, ?_⟩, ⟨?_, ?_⟩, ⟨?_, ?_⟩, ⟨?_, ?_⟩, .inr ⟨rfl, _, _, _, m4, ?_, by rw [List.length_map]; exact hll⟩⟩
      case refine_10 => rw [endL_fin, hf]; rfl
      all_goals first | (simp only [zEA, Nat.reduceShiftRight, Nat.reduceMod, Nat.reduceEqDiff, Nat.reduceAdd, ↓reduceIte, reduceCtorEq, g3, k3, g8, k8, g9, k9, g10, k10]; done) | omega
  · have hlt' : (Int.ofNat 1 < 1) = False := eq_false (by decide)
    simp only [zEV, Nat.reduceShiftRight, Nat.reduceMod, Nat.reduceEqDiff, Nat.reduceAdd, ↓reduceIte, reduceCtorEq, g3, k3, g8, k8, g9, k9, g10, k10, hlt']
    refine go_call _ _ _ _ _ _ (ws := [.c (.ptr b 0)]) rfl (by simp only [zEV, Nat.reduceShiftRight, Nat.reduceMod, Nat.reduceEqDiff, Nat.reduceAdd, ↓reduceIte, reduceCtorEq, g3, k3, argsOf_cons, argsOf_nil]) ?_
    refine ends27 X h27 hm (by omega) _ fun S4 n4 m4 p4 => ?_
    rw [he] at m4
    obtain ⟨lc, hlc, hfz⟩ := m4.frz
    simp only [zEV, Nat.reduceShiftRight, Nat.reduceMod, Nat.reduceEqDiff, Nat.reduceAdd, ↓reduceIte, reduceCtorEq, g3, k3, rNil_eq, fA_78_0, ldh53, hlc, hres]
    exact hK lc S4 hfz
def RFl (ps : List PW) (v : PV) : Prop := ∃ (l : List UInt8) (q : Bool), ps = [.c (.sl 4 [elN (rnV l q)])] ∧ l.length ≤ 1000 ∧ v = .w (.c (slD 1 ((fieldsV l q).map fun l => [chD l])))
noncomputable def e17 : Nat × Ext := (17, .fn (ofG RFl) [])
theorem c17 : OkE Tryz.prog e17 := fn_goE (exts := [e29]) Wk.any_ok Wk.types_ok fns_ok (oks1 c29 oks0) rfl [] rfl _ (by
  rintro ps pv ⟨l, q, rfl, hl, rfl⟩
  refine fields17 _ rfl rfl rfl rfl rfl rfl l q hl _ _ fun c s' h => ?_
  obtain ⟨bs, hf⟩ := h
  exact ⟨bs, frz_c hf⟩)
theorem callR_fl {X : T Ext} (h17 : (En X).ext.get 17 = some (.fn (ofG RFl) [])) (l : List UInt8) (q : Bool) (hl : l.length ≤ 1000) (s : St) : CallR (En X) 17 [.c (.dat 4 [elN (rnV l q)])] s (.w (.c (slD 1 ((fieldsV l q).map fun l => [chD l])).toC)) s :=
  callR_fn (ps := [.c (.sl 4 [elN (rnV l q)])]) (pv := .w (.c (slD 1 ((fieldsV l q).map fun l => [chD l])))) h17 (ofG_eq ⟨l, q, rfl, hl, rfl⟩ (by
    rintro v' ⟨l', q', h1, _, rfl⟩
    simp only [List.cons.injEq, PW.c.injEq, D.sl.injEq, true_and, and_true] at h1
    have := elN_inj h1
    simp only [rnV, Rn.mk.injEq] at this
    rw [this.1, this.2.1])) rfl
end Ws
