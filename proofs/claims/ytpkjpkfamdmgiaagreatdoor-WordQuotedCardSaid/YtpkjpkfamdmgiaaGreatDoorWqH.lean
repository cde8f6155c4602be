import Derived.Test.YtpkjpkfamdmgiaaGreatDoorWqG
import Derived.Test.YtpkjpkfamdmgiaaGreatDoorEwL
namespace Ws
open Go Go.Proofs Ev Wq
set_option linter.unusedVariables false
set_option linter.unusedSimpArgs false
set_option linter.unnecessarySimpa false
set_option maxRecDepth 100000
def isF (c : Nat × Bool) (r : Int) : Bool := !c.2 && decide (Int.ofNat c.1 = r)
theorem is49 (X : T Ext) (hX : (En X).ext.get 49 = none) (c : Nat × Bool) (r : Int) (s : St) (K : V → St → Prop) (hK : ∀ s', K (.w (.c (.bool (isF c r)))) s') : goC (En X) 49 [.agg (cellsD (elC c)), .c (.int .i32 r)] s K := by
  refine goC_body hX (kp49 X) (fn49 X) rfl (by kernel_rfl) ?_
  have hres : Tryz.f49.results.toList = [.tmp 4] := rfl
  have q0 := LRow.new s (cellsD (elC c))
  have c1 : ldHC (s.new (.row (mkRow (cellsD (elC c))))).h.get s.nx 1 = some (.c (.bool c.2)) := q0.ldC rfl
  have c0 : ldHC (s.new (.row (mkRow (cellsD (elC c))))).h.get s.nx 0 = some (.c (.int .i32 (Int.ofNat c.1))) := q0.ldC rfl
  unfold isF at hK
  simp only [zEV, Nat.reduceShiftRight, Nat.reduceMod, Nat.reduceEqDiff, Nat.reduceAdd, ↓reduceIte, reduceCtorEq, fA_65_1, ldh4, c1]
  cases hc : c.2 with
  | true =>
    rw [hc] at hK
    simp only [zEV, Nat.reduceShiftRight, Nat.reduceMod, Nat.reduceEqDiff, Nat.reduceAdd, ↓reduceIte, reduceCtorEq, hres]
    exact hK _
  | false =>
    rw [hc] at hK
    simp only [zEV, Nat.reduceShiftRight, Nat.reduceMod, Nat.reduceEqDiff, Nat.reduceAdd, ↓reduceIte, reduceCtorEq, fA_65_0, ldh21, c0, hres]
    exact hK _
def RIs (ps : List PW) (v : PV) : Prop := ∃ (c : Nat × Bool) (r : Int), ps = [.agg (elC c), .c (.int .i32 r)] ∧ v = .w (.c (.bool (isF c r)))
noncomputable def e49 : Nat × Ext := (49, .fn (ofG RIs) [])
theorem c49 : OkE Tryz.prog e49 := fn_goE (exts := []) Wk.any_ok Wk.types_ok fns_ok oks0 rfl [] rfl _ (by
  rintro ps pv ⟨c, r, rfl, rfl⟩
  exact is49 _ rfl c r _ _ fun s' => ⟨[], rfl⟩)
theorem elC_pl (c : Nat × Bool) : (elC c).all D.plain = true := rfl
theorem callR_is {X : T Ext} (h49 : (En X).ext.get 49 = some (.fn (ofG RIs) [])) (c : Nat × Bool) (r : Int) (s : St) : CallR (En X) 49 [.agg (cellsD (elC c)), .c (.int .i32 r)] s (.w (.c (.bool (isF c r)))) s :=
  callR_fn (ps := [.agg (elC c), .c (.int .i32 r)]) (pv := .w (.c (.bool (isF c r)))) h49 (ofG_eq ⟨c, r, rfl, rfl⟩ (by
    rintro v' ⟨c', r', h1, rfl⟩
    simp only [List.cons.injEq, PW.agg.injEq, PW.c.injEq, D.int.injEq, true_and, and_true] at h1
    rw [elC_inj h1.1, h1.2])) rfl
def spB (c : Nat × Bool) : Bool := isF c 42 || isF c 63 || isF c 91
theorem has48 (X : T Ext) (hX : (En X).ext.get 48 = none) (h49 : (En X).ext.get 49 = some (.fn (ofG RIs) [])) (c : Nat × Bool) (s : St) (K : V → St → Prop) (hK : ∀ s', K (.w (.c (.bool (spB c)))) s') : goC (En X) 48 [.agg (cellsD (elC c))] s K := by
  refine goC_body hX (kp48 X) (fn48 X) rfl (by kernel_rfl) ?_
  have hres : Tryz.f48.results.toList = [.tmp 2] := rfl
  have q0 := LRow.new s (cellsD (elC c))
  have ca : ldHA 2 (s.new (.row (mkRow (cellsD (elC c))))).h.get s.nx 0 = some (.agg (cellsD (elC c))) := q0.ldA
  unfold spB at hK
  simp only [zEV, Nat.reduceShiftRight, Nat.reduceMod, Nat.reduceEqDiff, Nat.reduceAdd, ↓reduceIte, reduceCtorEq, ldh65, ca]
  refine go_call _ _ _ _ _ _ (ws := [.agg (cellsD (elC c)), .c (.int .i32 42)]) rfl (by simp only [zEA, Nat.reduceShiftRight, Nat.reduceMod, Nat.reduceEqDiff, Nat.reduceAdd, ↓reduceIte, reduceCtorEq, argsOf_cons, argsOf_nil]) ?_
  refine goC_of (callR_is h49 c 42 _) ?_
  cases h1 : isF c 42 with
  | true =>
    rw [h1] at hK
    simp only [zEV, Nat.reduceShiftRight, Nat.reduceMod, Nat.reduceEqDiff, Nat.reduceAdd, ↓reduceIte, reduceCtorEq, hres]
    exact hK _
  | false =>
    rw [h1] at hK
    simp only [zEV, Nat.reduceShiftRight, Nat.reduceMod, Nat.reduceEqDiff, Nat.reduceAdd, ↓reduceIte, reduceCtorEq, ldh65, ca]
    refine go_call _ _ _ _ _ _ (ws := [.agg (cellsD (elC c)), .c (.int .i32 63)]) rfl (by simp only [zEA, Nat.reduceShiftRight, Nat.reduceMod, Nat.reduceEqDiff, Nat.reduceAdd, ↓reduceIte, reduceCtorEq, argsOf_cons, argsOf_nil]) ?_
    refine goC_of (callR_is h49 c 63 _) ?_
    cases h2 : isF c 63 with
    | true =>
      rw [h2] at hK
      simp only [zEV, Nat.reduceShiftRight, Nat.reduceMod, Nat.reduceEqDiff, Nat.reduceAdd, ↓reduceIte, reduceCtorEq, hres]
      exact hK _
    | false =>
      rw [h2] at hK
      simp only [zEV, Nat.reduceShiftRight, Nat.reduceMod, Nat.reduceEqDiff, Nat.reduceAdd, ↓reduceIte, reduceCtorEq, ldh65, ca]
      refine go_call _ _ _ _ _ _ (ws := [.agg (cellsD (elC c)), .c (.int .i32 91)]) rfl (by simp only [zEA, Nat.reduceShiftRight, Nat.reduceMod, Nat.reduceEqDiff, Nat.reduceAdd, ↓reduceIte, reduceCtorEq, argsOf_cons, argsOf_nil]) ?_
      refine goC_of (callR_is h49 c 91 _) ?_
      simp only [zEV, Nat.reduceShiftRight, Nat.reduceMod, Nat.reduceEqDiff, Nat.reduceAdd, ↓reduceIte, reduceCtorEq, hres]
      exact hK _
def RSp (ps : List PW) (v : PV) : Prop := ∃ c : Nat × Bool, ps = [.agg (elC c)] ∧ v = .w (.c (.bool (spB c)))
noncomputable def e48 : Nat × Ext := (48, .fn (ofG RSp) [])
theorem c48 : OkE Tryz.prog e48 := fn_goE (exts := [e49]) Wk.any_ok Wk.types_ok fns_ok (oks1 c49 oks0) rfl [] rfl _ (by
  rintro ps pv ⟨c, rfl, rfl⟩
  exact has48 _ rfl rfl c _ _ fun s' => ⟨[], rfl⟩)
theorem callR_sp {X : T Ext} (h48 : (En X).ext.get 48 = some (.fn (ofG RSp) [])) (c : Nat × Bool) (s : St) : CallR (En X) 48 [.agg (cellsD (elC c))] s (.w (.c (.bool (spB c)))) s :=
  callR_fn (ps := [.agg (elC c)]) (pv := .w (.c (.bool (spB c)))) h48 (ofG_eq ⟨c, rfl, rfl⟩ (by
    rintro v' ⟨c', h1, rfl⟩
    simp only [List.cons.injEq, PW.agg.injEq, and_true] at h1
    rw [elC_inj h1])) rfl
theorem index70 (X : T Ext) (hX : (En X).ext.get 70 = none) (h48 : (En X).ext.get 48 = some (.fn (ofG RSp) [])) (cs : List (Nat × Bool)) (hn : cs.length ≤ 100000) (s : St) (K : V → St → Prop) (hK : ∀ (n : Int) s', ((0 ≤ n) ↔ cs.any spB = true) → K (.w (.c (.int .i64 n))) s') :
    goC (En X) 70 [.c (slD 2 (cs.map elC)).toC, .c (.fn 48 [])] s K := by
  refine goC_body hX (kp70 X) (fn70 X) rfl (by kernel_rfl) ?_
  have hres : Tryz.f70.results.toList = [.tmp 4] := rfl
  have hie : IsEls 2 (slD 2 (cs.map elC)) := isEls_slD (elC_two cs)
  have hlen : ∀ look, len (En X) 40 look (slD 2 (cs.map elC)).toC = some cs.length := fun look => by rw [len_els (us40 X) hie, els_slD, List.length_map]
  have hix : ∀ {i : Nat} {c : Nat × Bool}, cs[i]? = some c → indexAddr (En X) 40 (slD 2 (cs.map elC)).toC (Int.ofNat i) = some (.dp (elC c) 0) := fun {i c} h => index_els (us40 X) (sz65 X) hie (by rw [els_slD]; exact getD_map h)
  have hld : ∀ c, loadD (En X) 65 (elC c) 0 = some (.agg (cellsD (elC c))) := fun c => by rw [ld65]; rfl
  generalize (slD 2 (cs.map elC)).toC = dc at *
  simp only [zEV, Nat.reduceShiftRight, Nat.reduceMod, Nat.reduceEqDiff, Nat.reduceAdd, ↓reduceIte, reduceCtorEq, hlen]
  refine go_loop (goL_inv (fun n a s' => ∃ i, n = cs.length - i ∧ i ≤ cs.length ∧ (cs.take i).any spB = false ∧ Has a 0 (vc dc) ∧ Has a 1 (vc (.fn 48 [])) ∧ Has a 7 (vc (.int .i64 (Int.ofNat cs.length))) ∧ Has a 8 (vc (.int .i64 (Int.ofNat i)))) (n := cs.length)
    ⟨0, rfl, Nat.zero_le _, rfl, ⟨rfl, rfl⟩, ⟨rfl, rfl⟩, ⟨rfl, rfl⟩, ⟨rfl, rfl⟩⟩ ?_)
  rintro n a s' ⟨i, rfl, hi, hany, ⟨g0, k0⟩, ⟨g1, k1⟩, ⟨g7, k7⟩, ⟨g8, k8⟩⟩
  by_cases hlt : i < cs.length
  · obtain ⟨c, hc⟩ : ∃ c, cs[i]? = some c := ⟨_, List.getElem?_eq_getElem hlt⟩
    have hx := hix hc
    have hlt' : (Int.ofNat i < Int.ofNat cs.length) = True := eq_true (Int.ofNat_lt.2 hlt)
    have hsu := nat_succ (show i < 9223372036854775807 by omega)
    simp only [zEV, Nat.reduceShiftRight, Nat.reduceMod, Nat.reduceEqDiff, Nat.reduceAdd, ↓reduceIte, reduceCtorEq, g0, k0, g1, k1, g7, k7, g8, k8, hlt', hx, hld]
    refine go_call _ _ _ _ _ _ (ws := [.agg (cellsD (elC c))]) (g := 48) (cap := []) (by simp only [zEV, Nat.reduceShiftRight, Nat.reduceMod, Nat.reduceEqDiff, Nat.reduceAdd, ↓reduceIte, reduceCtorEq, g0, k0, g1, k1, g7, k7, g8, k8]) (by simp only [zEV, Nat.reduceShiftRight, Nat.reduceMod, Nat.reduceEqDiff, Nat.reduceAdd, ↓reduceIte, reduceCtorEq, g0, k0, g1, k1, g7, k7, g8, k8, argsOf_cons, argsOf_nil]) ?_
    refine goC_of (callR_sp h48 c _) ?_
    cases hb : spB c with
    | true =>
      simp only [zEV, Nat.reduceShiftRight, Nat.reduceMod, Nat.reduceEqDiff, Nat.reduceAdd, ↓reduceIte, reduceCtorEq, g0, k0, g1, k1, g7, k7, g8, k8, hres]
      refine hK _ _ ⟨fun _ => List.any_eq_true.2 ⟨c, List.mem_of_getElem? hc, hb⟩, fun _ => Int.natCast_nonneg i⟩
    | false =>
      simp only [zEV, Nat.reduceShiftRight, Nat.reduceMod, Nat.reduceEqDiff, Nat.reduceAdd, ↓reduceIte, reduceCtorEq, g0, k0, g1, k1, g7, k7, g8, k8, hsu]
      refine ⟨_, ?_, i + 1, rfl, hlt, ?_, ⟨?_, ?_⟩, ⟨?_, ?_⟩, ⟨?_, ?_⟩, ⟨?_, ?_⟩⟩
      case refine_2 => rw [List.take_add_one, hc, List.any_append, hany]; simp [hb]
      all_goals first | (simp only [zEA, Nat.reduceShiftRight, Nat.reduceMod, Nat.reduceEqDiff, Nat.reduceAdd, ↓reduceIte, reduceCtorEq, g0, k0, g1, k1, g7, k7, g8, k8]; done) | omega
  · have hlt' : (Int.ofNat i < Int.ofNat cs.length) = False := eq_false (fun h => hlt (Int.ofNat_lt.1 h))
    rw [List.take_of_length_le (by omega)] at hany
    simp only [zEV, Nat.reduceShiftRight, Nat.reduceMod, Nat.reduceEqDiff, Nat.reduceAdd, ↓reduceIte, reduceCtorEq, g0, k0, g1, k1, g7, k7, g8, k8, hlt', hres]
    refine hK _ _ ⟨fun h => absurd h (by decide), fun h => by rw [hany] at h; cases h⟩
theorem has31 (X : T Ext) (hX : (En X).ext.get 31 = none) (hX1 : (En X).ext.get 47 = none) (hX2 : (En X).ext.get 70 = none) (h48 : (En X).ext.get 48 = some (.fn (ofG RSp) [])) (cs : List (Nat × Bool)) (hn : cs.length ≤ 100000) (s : St) (K : V → St → Prop) (hK : ∀ s', K (.w (.c (.bool (cs.any spB)))) s') :
    goC (En X) 31 [.c (slD 2 (cs.map elC)).toC] s K := by
  refine goC_body hX (kp31 X) (fn31 X) rfl (by kernel_rfl) ?_
  have hres : Tryz.f31.results.toList = [.tmp 2] := rfl
  simp only [zEV, Nat.reduceShiftRight, Nat.reduceMod, Nat.reduceEqDiff, Nat.reduceAdd, ↓reduceIte, reduceCtorEq]
  refine go_call _ _ _ _ _ _ (ws := [.c (slD 2 (cs.map elC)).toC, .c (.fn 48 [])]) rfl (by simp only [zEA, Nat.reduceShiftRight, Nat.reduceMod, Nat.reduceEqDiff, Nat.reduceAdd, ↓reduceIte, reduceCtorEq, argsOf_cons, argsOf_nil]; rfl) ?_
  show goC (En X) 47 [.c (slD 2 (cs.map elC)).toC, .c (.fn 48 [])] _ _
  refine goC_body hX1 (kp47 X) (fn47 X) rfl (by kernel_rfl) ?_
  have hres2 : Tryz.f47.results.toList = [.tmp 4] := rfl
  simp only [zEV, Nat.reduceShiftRight, Nat.reduceMod, Nat.reduceEqDiff, Nat.reduceAdd, ↓reduceIte, reduceCtorEq]
  refine go_call _ _ _ _ _ _ (ws := [.c (slD 2 (cs.map elC)).toC, .c (.fn 48 [])]) rfl (by simp only [zEA, Nat.reduceShiftRight, Nat.reduceMod, Nat.reduceEqDiff, Nat.reduceAdd, ↓reduceIte, reduceCtorEq, argsOf_cons, argsOf_nil]) ?_
  refine index70 X hX2 h48 cs hn _ _ fun n s' hh => ?_
  cases hb : cs.any spB with
  | true =>
    have e : (0 ≤ n) = True := eq_true (hh.2 hb)
    rw [hb] at hK
    simp only [zEV, Nat.reduceShiftRight, Nat.reduceMod, Nat.reduceEqDiff, Nat.reduceAdd, ↓reduceIte, reduceCtorEq, e, hres, hres2]
    exact hK _
  | false =>
    have e : (0 ≤ n) = False := eq_false (fun h => by rw [hh.1 h] at hb; cases hb)
    rw [hb] at hK
    simp only [zEV, Nat.reduceShiftRight, Nat.reduceMod, Nat.reduceEqDiff, Nat.reduceAdd, ↓reduceIte, reduceCtorEq, e, hres, hres2]
    exact hK _
def RHs (ps : List PW) (v : PV) : Prop := ∃ cs : List (Nat × Bool), ps = [.c (chD cs)] ∧ cs.length ≤ 100000 ∧ v = .w (.c (.bool (cs.any spB)))
noncomputable def e31 : Nat × Ext := (31, .fn (ofG RHs) [])
theorem c31 : OkE Tryz.prog e31 := fn_goE (exts := [e48]) Wk.any_ok Wk.types_ok fns_ok (oks1 c48 oks0) rfl [] rfl _ (by
  rintro ps pv ⟨cs, rfl, hn, rfl⟩
  exact has31 _ rfl rfl rfl rfl cs hn _ _ fun s' => ⟨[], rfl⟩)
theorem chD_inj {a b : List (Nat × Bool)} (h : chD a = chD b) : a = b := by
  have := congrArg els h
  unfold chD at this
  rw [els_slD, els_slD] at this
  exact mapC_inj this
theorem chD_plain (a : List (Nat × Bool)) : (chD a).plain = true := slD_plain _ _
theorem callR_hs {X : T Ext} (h31 : (En X).ext.get 31 = some (.fn (ofG RHs) [])) (cs : List (Nat × Bool)) (hn : cs.length ≤ 100000) (s : St) : CallR (En X) 31 [.c (chD cs).toC] s (.w (.c (.bool (cs.any spB)))) s :=
  callR_fn (ps := [.c (chD cs)]) (pv := .w (.c (.bool (cs.any spB)))) h31 (ofG_eq ⟨cs, rfl, hn, rfl⟩ (by
    rintro v' ⟨c', h1, _, rfl⟩
    simp only [List.cons.injEq, PW.c.injEq, and_true] at h1
    rw [chD_inj h1])) (by show (true && ((chD cs).plain && true)) = true; rw [chD_plain]; rfl)
end Ws
