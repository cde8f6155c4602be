import Derived.Test.YtaapmoclinjefaaDoorArO
namespace Ar
open Go Go.Proofs Ev Go.Lib Nu
set_option linter.unusedVariables false
set_option linter.unusedSimpArgs false
set_option linter.unnecessarySimpa false
set_option maxRecDepth 100000
/-! a name's number -/
def elV (x : List UInt8 × List UInt8) : List D := [.str (Str.ofL x.1), .str (Str.ofL x.2)]
def IsV (d : D) (vs : List (List UInt8 × List UInt8)) : Prop := IsEls 2 d ∧ els d = vs.map elV
def idxV (name : List UInt8) : List (List UInt8 × List UInt8) → Nat
  | [] => 0
  | x :: vs => if x.1 = name then 0 else idxV name vs + 1
def valV (name : List UInt8) : List (List UInt8 × List UInt8) → Int × Bool
  | [] => (0, true)
  | x :: vs => if x.1 = name then (if x.2 = [] then (0, true) else ((refNum x.2).getD 0, (refNum x.2).isSome)) else valV name vs
theorem valV_at (name : List UInt8) : ∀ vs : List (List UInt8 × List UInt8), (idxV name vs < vs.length → ∃ x, vs[idxV name vs]? = some x ∧ valV name vs = (if x.2 = [] then (0, true) else ((refNum x.2).getD 0, (refNum x.2).isSome))) ∧ (¬ idxV name vs < vs.length → valV name vs = (0, true))
  | [] => ⟨fun h => by simp at h, fun _ => rfl⟩
  | x :: vs => by
    unfold idxV valV
    by_cases h : x.1 = name
    · simp only [if_pos h]
      exact ⟨fun _ => ⟨x, rfl, rfl⟩, fun h => by simp at h⟩
    · simp only [if_neg h]
      have := valV_at name vs
      refine ⟨fun hl => ?_, fun hl => this.2 (by simpa using hl)⟩
      obtain ⟨y, h1, h2⟩ := this.1 (by simpa using hl)
      exact ⟨y, by simpa using h1, h2⟩
theorem idxV_step (name : List UInt8) : ∀ (vs : List (List UInt8 × List UInt8)) (i : Nat) (x : List UInt8 × List UInt8), i ≤ idxV name vs → vs[i]? = some x → (x.1 = name → idxV name vs = i) ∧ (x.1 ≠ name → i + 1 ≤ idxV name vs)
  | [], i, x, _, h => by simp at h
  | y :: vs, 0, x, _, h => by
    simp at h
    subst h
    unfold idxV
    exact ⟨fun h => if_pos h, fun h => by rw [if_neg h]; omega⟩
  | y :: vs, i + 1, x, hi, h => by
    unfold idxV at hi ⊢
    by_cases hy : y.1 = name
    · rw [if_pos hy] at hi; omega
    · rw [if_neg hy] at hi ⊢
      have := idxV_step name vs i x (by omega) (by simpa using h)
      exact ⟨fun h => by rw [this.1 h], fun h => by have := this.2 h; omega⟩
theorem idxV_le (name : List UInt8) : ∀ vs, idxV name vs ≤ vs.length
  | [] => Nat.le_refl _
  | x :: vs => by
    have := idxV_le name vs
    unfold idxV
    split <;> simp <;> omega
theorem clo36 (X : T Ext) (hX : (En X).ext.get 36 = none) (x : List UInt8 × List UInt8) (name : List UInt8) {p : Nat} (s : St) (hp : LRow s p [.str (Str.ofL name)]) (hps : p < s.nx) (K : V → St → Prop)
    (hK : ∀ s' : St, s.nx ≤ s'.nx → (∀ x, x < s.nx → s'.h.get x = s.h.get x) → K (vc (.bool (x.1 == name))) s') : goC (En X) 36 [.agg (cellsD (elV x)), .c (.ptr p 0)] s K := by
  refine goC_body hX (kp36 X) (fn36 X) rfl (by kernel_rfl) ?_
  have hres : Tryd.f36.results.toList = [.tmp 3] := rfl
  have r1 := LRow.new s (cellsD (elV x))
  have r2 : LRow (s.new (.row (mkRow (cellsD (elV x))))) p [.str (Str.ofL name)] := hp.keep (new_old _ _ hps)
  have n1 : (s.new (.row (mkRow (cellsD (elV x))))).nx = s.nx + 1 := St.new_nx _ _
  have f1 : ∀ y, y < s.nx → (s.new (.row (mkRow (cellsD (elV x))))).h.get y = s.h.get y := fun y hy => new_old s _ hy
  simp only [zaa, zab, zac, zad, zae, zaf, zag, zah, zai, zaj, zak, zal, zam, zan, zao, zap, zaq, zar, zas, zat, zau, zav, zaw, zax, zay, zaz, zba, zbb, zbc, zbd, zbe, go_b, zbf, zbg, zbh, zbi, zbj, zbk, zbl, zbm, zbd, zbe, zbn, zbo, zbp, zbq, zbr, zbw, zbx, zby, zbz, zca, zcb, zcc, zcd, zce, zcf, zcg, zch, zci, zcj, zck, zcl, zcm, zcn, zco, zcp, zcq, zcr, zcs, zct, zcu, zcv, zcw, zcx, zcy, zcz, zda, zdb, zdc, zdd, zde, zdf, zdg, zdh, zdi, zdj, zdk, zdl, zdm, zdn, zdo, zdp, zdq, zdr, zds, zdt, zdu, zdv, zdw, zdx, zdy, zdz, zea, zeb, zec, zed, zee, zef, zeg, zeh, zei, zej, zek, zel, zem, zen, zeo, zep, zeq, zer, zes, zet, zeu, zev, zew, zex, zey, zez, zfa, zfb, zfc, zfd, zfe, zff, zfg, zfh, zfi, zfj, zfk, zgh, zgi, zgj, zgk, zgl, zgm, zgn, zgo, zgp, zgq, zgr, zgs, zgt, zgu, Nat.reduceShiftRight, Nat.reduceMod, Nat.reduceEqDiff, Nat.reduceAdd, ↓reduceIte, reduceCtorEq, zgv, zgw]
  generalize s.new (.row (mkRow (cellsD (elV x)))) = s1 at r1 r2 n1 f1 ⊢
  have l1 : ldHC s1.h.get s.nx 0 = some (.c (.str (Str.ofL x.1))) := r1.ldC rfl
  have l2 : ldHC s1.h.get p 0 = some (.c (.str (Str.ofL name))) := r2.ldC rfl
  simp only [zaa, zab, zac, zad, zae, zaf, zag, zah, zai, zaj, zak, zal, zam, zan, zao, zap, zaq, zar, zas, zat, zau, zav, zaw, zax, zay, zaz, zba, zbb, zbc, zbd, zbe, go_b, zbf, zbg, zbh, zbi, zbj, zbk, zbl, zbm, zbd, zbe, zbn, zbo, zbp, zbq, zbr, zbw, zbx, zby, zbz, zca, zcb, zcc, zcd, zce, zcf, zcg, zch, zci, zcj, zck, zcl, zcm, zcn, zco, zcp, zcq, zcr, zcs, zct, zcu, zcv, zcw, zcx, zcy, zcz, zda, zdb, zdc, zdd, zde, zdf, zdg, zdh, zdi, zdj, zdk, zdl, zdm, zdn, zdo, zdp, zdq, zdr, zds, zdt, zdu, zdv, zdw, zdx, zdy, zdz, zea, zeb, zec, zed, zee, zef, zeg, zeh, zei, zej, zek, zel, zem, zen, zeo, zep, zeq, zer, zes, zet, zeu, zev, zew, zex, zey, zez, zfa, zfb, zfc, zfd, zfe, zff, zfg, zfh, zfi, zfj, zfk, zgh, zgi, zgj, zgk, zgl, zgm, zgn, zgo, zgp, zgq, zgr, zgs, zgt, zgu, Nat.reduceShiftRight, Nat.reduceMod, Nat.reduceEqDiff, Nat.reduceAdd, ↓reduceIte, reduceCtorEq, zgv, zgw, fA_32_0, ldh9, l1, l2, hres]
  exact hK _ (by omega) f1
theorem index35 (X : T Ext) (hX : (En X).ext.get 35 = none) (h36 : (En X).ext.get 36 = none) {d : D} {vs : List (List UInt8 × List UInt8)} (hv : IsV d vs) (hn : vs.length ≤ 1000) (name : List UInt8) {p : Nat} (s : St) (hp : LRow s p [.str (Str.ofL name)]) (hps : p < s.nx) (K : V → St → Prop)
    (hK : ∀ s' : St, s.nx ≤ s'.nx → (∀ x, x < s.nx → s'.h.get x = s.h.get x) → K (vc (.int .i64 (if idxV name vs < vs.length then Int.ofNat (idxV name vs) else -1))) s') : goC (En X) 35 [.c d.toC, .c (.fn 36 [(p, 0)])] s K := by
  refine goC_body hX (kp35 X) (fn35 X) rfl (by kernel_rfl) ?_
  have hres : Tryd.f35.results.toList = [.tmp 4] := rfl
  obtain ⟨hv1, hv2⟩ := hv
  have hlv : (els d).length = vs.length := by rw [hv2, List.length_map]
  have hl : ∀ look, len (En X) 22 look d.toC = some vs.length := fun look => by rw [len_els (us22 X) hv1, hlv]
  simp only [zaa, zab, zac, zad, zae, zaf, zag, zah, zai, zaj, zak, zal, zam, zan, zao, zap, zaq, zar, zas, zat, zau, zav, zaw, zax, zay, zaz, zba, zbb, zbc, zbd, zbe, go_b, zbf, zbg, zbh, zbi, zbj, zbk, zbl, zbm, zbd, zbe, zbn, zbo, zbp, zbq, zbr, zbw, zbx, zby, zbz, zca, zcb, zcc, zcd, zce, zcf, zcg, zch, zci, zcj, zck, zcl, zcm, zcn, zco, zcp, zcq, zcr, zcs, zct, zcu, zcv, zcw, zcx, zcy, zcz, zda, zdb, zdc, zdd, zde, zdf, zdg, zdh, zdi, zdj, zdk, zdl, zdm, zdn, zdo, zdp, zdq, zdr, zds, zdt, zdu, zdv, zdw, zdx, zdy, zdz, zea, zeb, zec, zed, zee, zef, zeg, zeh, zei, zej, zek, zel, zem, zen, zeo, zep, zeq, zer, zes, zet, zeu, zev, zew, zex, zey, zez, zfa, zfb, zfc, zfd, zfe, zff, zfg, zfh, zfi, zfj, zfk, zgh, zgi, zgj, zgk, zgl, zgm, zgn, zgo, zgp, zgq, zgr, zgs, zgt, zgu, Nat.reduceShiftRight, Nat.reduceMod, Nat.reduceEqDiff, Nat.reduceAdd, ↓reduceIte, reduceCtorEq, zgv, zgw, hl]
  refine go_loop (goL_inv (fun n a s' => ∃ i, n = vs.length - i ∧ i ≤ vs.length ∧ i ≤ idxV name vs ∧ Has a 0 (vc d.toC) ∧ Has a 1 (vc (.fn 36 [(p, 0)])) ∧ Has a 7 (vc (.int .i64 (Int.ofNat vs.length))) ∧ Has a 8 (vc (.int .i64 (Int.ofNat i))) ∧ s.nx ≤ s'.nx ∧ ∀ x, x < s.nx → s'.h.get x = s.h.get x) (n := vs.length)
    ⟨0, rfl, Nat.zero_le _, Nat.zero_le _, ⟨rfl, rfl⟩, ⟨rfl, rfl⟩, ⟨rfl, rfl⟩, ⟨rfl, rfl⟩, Nat.le_refl _, fun _ _ => rfl⟩ ?_)
  rintro n a s' ⟨i, rfl, hi, hix, ⟨g0, k0⟩, ⟨g1, k1⟩, ⟨g7, k7⟩, ⟨g8, k8⟩, hnx, hkp⟩
  have hp2 := hp.keep (hkp p hps)
  have hile := idxV_le name vs
  by_cases hlt : i < vs.length
  · obtain ⟨x, hx⟩ : ∃ x, vs[i]? = some x := ⟨_, List.getElem?_eq_getElem hlt⟩
    have hxe : (els d)[i]? = some (elV x) := by rw [hv2, List.getElem?_map, hx]; rfl
    have hia := index_els (us22 X) (sz32 X) hv1 hxe
    have hla : ldA 2 (elV x) 0 = some (.agg (cellsD (elV x))) := rfl
    have hlt' : (Int.ofNat i < Int.ofNat vs.length) = True := eq_true (Int.ofNat_lt.2 hlt)
    have hsu := nat_succ (show i < 9223372036854775807 by omega)
    have hst := idxV_step name vs i x hix hx
    simp only [zaa, zab, zac, zad, zae, zaf, zag, zah, zai, zaj, zak, zal, zam, zan, zao, zap, zaq, zar, zas, zat, zau, zav, zaw, zax, zay, zaz, zba, zbb, zbc, zbd, zbe, go_b, zbf, zbg, zbh, zbi, zbj, zbk, zbl, zbm, zbd, zbe, zbn, zbo, zbp, zbq, zbr, zbw, zbx, zby, zbz, zca, zcb, zcc, zcd, zce, zcf, zcg, zch, zci, zcj, zck, zcl, zcm, zcn, zco, zcp, zcq, zcr, zcs, zct, zcu, zcv, zcw, zcx, zcy, zcz, zda, zdb, zdc, zdd, zde, zdf, zdg, zdh, zdi, zdj, zdk, zdl, zdm, zdn, zdo, zdp, zdq, zdr, zds, zdt, zdu, zdv, zdw, zdx, zdy, zdz, zea, zeb, zec, zed, zee, zef, zeg, zeh, zei, zej, zek, zel, zem, zen, zeo, zep, zeq, zer, zes, zet, zeu, zev, zew, zex, zey, zez, zfa, zfb, zfc, zfd, zfe, zff, zfg, zfh, zfi, zfj, zfk, zgh, zgi, zgj, zgk, zgl, zgm, zgn, zgo, zgp, zgq, zgr, zgs, zgt, zgu, Nat.reduceShiftRight, Nat.reduceMod, Nat.reduceEqDiff, Nat.reduceAdd, ↓reduceIte, reduceCtorEq, zgv, zgw, g0, k0, g1, k1, g7, k7, g8, k8, hlt', hia, ld32, hla]
    refine go_call _ _ _ _ _ _ (ws := [.agg (cellsD (elV x))]) (g := 36) (cap := [(p, 0)]) (by simp only [zaa, zab, zac, zad, zae, zaf, zag, zah, zai, zaj, zak, zal, zam, zan, zao, zap, zaq, zar, zas, zat, zau, zav, zaw, zax, zay, zaz, zba, zbb, zbc, zbd, zbe, go_b, zbf, zbg, zbh, zbi, zbj, zbk, zbl, zbm, zbd, zbe, zbn, zbo, zbp, zbq, zbr, zbw, zbx, zby, zbz, zca, zcb, zcc, zcd, zce, zcf, zcg, zch, zci, zcj, zck, zcl, zcm, zcn, zco, zcp, zcq, zcr, zcs, zct, zcu, zcv, zcw, zcx, zcy, zcz, zda, zdb, zdc, zdd, zde, zdf, zdg, zdh, zdi, zdj, zdk, zdl, zdm, zdn, zdo, zdp, zdq, zdr, zds, zdt, zdu, zdv, zdw, zdx, zdy, zdz, zea, zeb, zec, zed, zee, zef, zeg, zeh, zei, zej, zek, zel, zem, zen, zeo, zep, zeq, zer, zes, zet, zeu, zev, zew, zex, zey, zez, zfa, zfb, zfc, zfd, zfe, zff, zfg, zfh, zfi, zfj, zfk, zgh, zgi, zgj, zgk, zgl, zgm, zgn, zgo, zgp, zgq, zgr, zgs, zgt, zgu, Nat.reduceShiftRight, Nat.reduceMod, Nat.reduceEqDiff, Nat.reduceAdd, ↓reduceIte, reduceCtorEq, zgv, zgw, g0, k0, g1, k1, g7, k7, g8, k8]) (by simp only [zaa, zab, zac, zad, zae, zaf, zag, zah, zai, zaj, zak, zal, zam, zan, zao, zap, zaq, zar, zas, zat, zau, zav, zaw, zax, zay, zaz, zba, zbb, zbc, zbd, zbe, go_b, zbf, zbg, zbh, zbi, zbj, zbk, zbl, zbm, zbd, zbe, zbn, zbo, zbp, zbq, zbr, zbw, zbx, zby, zbz, zca, zcb, zcc, zcd, zce, zcf, zcg, zch, zci, zcj, zck, zcl, zcm, zcn, zco, zcp, zcq, zcr, zcs, zct, zcu, zcv, zcw, zcx, zcy, zcz, zda, zdb, zdc, zdd, zde, zdf, zdg, zdh, zdi, zdj, zdk, zdl, zdm, zdn, zdo, zdp, zdq, zdr, zds, zdt, zdu, zdv, zdw, zdx, zdy, zdz, zea, zeb, zec, zed, zee, zef, zeg, zeh, zei, zej, zek, zel, zem, zen, zeo, zep, zeq, zer, zes, zet, zeu, zev, zew, zex, zey, zez, zfa, zfb, zfc, zfd, zfe, zff, zfg, zfh, zfi, zfj, zfk, zgh, zgi, zgj, zgk, zgl, zgm, zgn, zgo, zgp, zgq, zgr, zgs, zgt, zgu, Nat.reduceShiftRight, Nat.reduceMod, Nat.reduceEqDiff, Nat.reduceAdd, ↓reduceIte, reduceCtorEq, zgv, zgw, g0, k0, g1, k1, g7, k7, g8, k8, argsOf_cons, argsOf_nil]) ?_
    refine clo36 X h36 x name s' hp2 (by omega) _ fun s2 hn3 hk3 => ?_
    have hk4 : ∀ x, x < s.nx → s2.h.get x = s.h.get x := fun x hx => (hk3 x (by omega)).trans (hkp x hx)
    by_cases hq : x.1 = name
    · have hb : (x.1 == name) = true := by simpa using hq
      have hi2 := hst.1 hq
      rw [if_pos (by omega), hi2] at hK
      simp only [zaa, zab, zac, zad, zae, zaf, zag, zah, zai, zaj, zak, zal, zam, zan, zao, zap, zaq, zar, zas, zat, zau, zav, zaw, zax, zay, zaz, zba, zbb, zbc, zbd, zbe, go_b, zbf, zbg, zbh, zbi, zbj, zbk, zbl, zbm, zbd, zbe, zbn, zbo, zbp, zbq, zbr, zbw, zbx, zby, zbz, zca, zcb, zcc, zcd, zce, zcf, zcg, zch, zci, zcj, zck, zcl, zcm, zcn, zco, zcp, zcq, zcr, zcs, zct, zcu, zcv, zcw, zcx, zcy, zcz, zda, zdb, zdc, zdd, zde, zdf, zdg, zdh, zdi, zdj, zdk, zdl, zdm, zdn, zdo, zdp, zdq, zdr, zds, zdt, zdu, zdv, zdw, zdx, zdy, zdz, zea, zeb, zec, zed, zee, zef, zeg, zeh, zei, zej, zek, zel, zem, zen, zeo, zep, zeq, zer, zes, zet, zeu, zev, zew, zex, zey, zez, zfa, zfb, zfc, zfd, zfe, zff, zfg, zfh, zfi, zfj, zfk, zgh, zgi, zgj, zgk, zgl, zgm, zgn, zgo, zgp, zgq, zgr, zgs, zgt, zgu, Nat.reduceShiftRight, Nat.reduceMod, Nat.reduceEqDiff, Nat.reduceAdd, ↓reduceIte, reduceCtorEq, zgv, zgw, g0, k0, g1, k1, g7, k7, g8, k8, hb, hres]
      exact hK _ (by omega) hk4
    · have hb : (x.1 == name) = false := by simpa using hq
      have hi2 := hst.2 hq
      simp only [zaa, zab, zac, zad, zae, zaf, zag, zah, zai, zaj, zak, zal, zam, zan, zao, zap, zaq, zar, zas, zat, zau, zav, zaw, zax, zay, zaz, zba, zbb, zbc, zbd, zbe, go_b, zbf, zbg, zbh, zbi, zbj, zbk, zbl, zbm, zbd, zbe, zbn, zbo, zbp, zbq, zbr, zbw, zbx, zby, zbz, zca, zcb, zcc, zcd, zce, zcf, zcg, zch, zci, zcj, zck, zcl, zcm, zcn, zco, zcp, zcq, zcr, zcs, zct, zcu, zcv, zcw, zcx, zcy, zcz, zda, zdb, zdc, zdd, zde, zdf, zdg, zdh, zdi, zdj, zdk, zdl, zdm, zdn, zdo, zdp, zdq, zdr, zds, zdt, zdu, zdv, zdw, zdx, zdy, zdz, zea, zeb, zec, zed, zee, zef, zeg, zeh, zei, zej, zek, zel, zem, zen, zeo, zep, zeq, zer, zes, zet, zeu, zev, zew, zex, zey, zez, zfa, zfb, zfc, zfd, zfe, zff, zfg, zfh, zfi, zfj, zfk, zgh, zgi, zgj, zgk, zgl, zgm, zgn, zgo, zgp, zgq, zgr, zgs, zgt, zgu, Nat.reduceShiftRight, Nat.reduceMod, Nat.reduceEqDiff, Nat.reduceAdd, ↓reduceIte, reduceCtorEq, zgv, zgw, g0, k0, g1, k1, g7, k7, g8, k8, hb, hsu]
      refine ⟨_, ?_, i + 1, rfl, hlt, hi2, ⟨?_, ?_⟩, ⟨?_, ?_⟩, ⟨?_, ?_⟩, ⟨?_, ?_⟩, by omega, hk4⟩
      all_goals first | (simp only [zca, zcb, zcc, zcd, zce, zcf, zcg, zch, zci, zcj, zck, zcl, zcm, zcn, zco, zcp, zcq, zcr, zcs, zct, zcu, zcv, zcw, zcx, zcy, zcz, zda, zdb, zdc, zdd, zde, zdf, zdg, zdh, zdi, zdj, zdk, zdl, zdm, zdn, zdo, zdp, zdq, zdr, zds, zfj, zfk, zgl, zgm, zgn, zgo, zgp, zgq, zgr, zgs, zgt, zgu, Nat.reduceShiftRight, Nat.reduceMod, Nat.reduceEqDiff, Nat.reduceAdd, ↓reduceIte, reduceCtorEq, zgv, zgw, g0, k0, g1, k1, g7, k7, g8, k8]; done) | omega
  · have hlt' : (Int.ofNat i < Int.ofNat vs.length) = False := eq_false (fun h => hlt (Int.ofNat_lt.1 h))
    rw [if_neg (by omega)] at hK
    simp only [zaa, zab, zac, zad, zae, zaf, zag, zah, zai, zaj, zak, zal, zam, zan, zao, zap, zaq, zar, zas, zat, zau, zav, zaw, zax, zay, zaz, zba, zbb, zbc, zbd, zbe, go_b, zbf, zbg, zbh, zbi, zbj, zbk, zbl, zbm, zbd, zbe, zbn, zbo, zbp, zbq, zbr, zbw, zbx, zby, zbz, zca, zcb, zcc, zcd, zce, zcf, zcg, zch, zci, zcj, zck, zcl, zcm, zcn, zco, zcp, zcq, zcr, zcs, zct, zcu, zcv, zcw, zcx, zcy, zcz, zda, zdb, zdc, zdd, zde, zdf, zdg, zdh, zdi, zdj, zdk, zdl, zdm, zdn, zdo, zdp, zdq, zdr, zds, zdt, zdu, zdv, zdw, zdx, zdy, zdz, zea, zeb, zec, zed, zee, zef, zeg, zeh, zei, zej, zek, zel, zem, zen, zeo, zep, zeq, zer, zes, zet, zeu, zev, zew, zex, zey, zez, zfa, zfb, zfc, zfd, zfe, zff, zfg, zfh, zfi, zfj, zfk, zgh, zgi, zgj, zgk, zgl, zgm, zgn, zgo, zgp, zgq, zgr, zgs, zgt, zgu, Nat.reduceShiftRight, Nat.reduceMod, Nat.reduceEqDiff, Nat.reduceAdd, ↓reduceIte, reduceCtorEq, zgv, zgw, g0, k0, g1, k1, g7, k7, g8, k8, hlt', hres]
    exact hK _ hnx hkp
def pvP (p : Int × Bool) : PV := .tup [.c (.int .i64 p.1), .c (.bool p.2)]
theorem rMakeFunc_one (a : A) (f : Nat) (x : Operand) : rMakeFunc a (.func f) [] [x] = match opP a x with
  | some y => some (vc (.fn f [y]))
  | none => none := by
  unfold rMakeFunc ptrsOf
  cases opP a x <;> rfl
theorem value20 (X : T Ext) (hX : (En X).ext.get 20 = none) (hX1 : (En X).ext.get 35 = none) (h36 : (En X).ext.get 36 = none) (h15 : (En X).ext.get 15 = some (.fn (ofG RNum) gsE)) {d : D} {vs : List (List UInt8 × List UInt8)} (hv : IsV d vs) (hn : vs.length ≤ 1000) (hvl : ∀ x ∈ vs, x.2.length ≤ 140737488351232)
    (name : List UInt8) (s : St) (hg : rowsAre s.h.get gsE = true) (hgn : ∀ p ∈ gsE, p.1 < s.nx) (K : V → St → Prop) (hK : ∀ s', K (pvP (valV name vs)).toV s') : goC (En X) 20 [.c (.str (Str.ofL name)), .c d.toC] s K := by
  refine goC_body hX (kp20 X) (fn20 X) rfl (by kernel_rfl) ?_
  have hres : Tryd.f20.results.toList = [.tmp 4, .tmp 5] := rfl
  have r1 := LRow.new s [C.str (Str.ofL name)]
  have n1 : (s.new (.row (mkRow [C.str (Str.ofL name)]))).nx = s.nx + 1 := St.new_nx _ _
  have f1 : ∀ y, y < s.nx → (s.new (.row (mkRow [C.str (Str.ofL name)]))).h.get y = s.h.get y := fun y hy => new_old s _ hy
  simp only [zaa, zab, zac, zad, zae, zaf, zag, zah, zai, zaj, zak, zal, zam, zan, zao, zap, zaq, zar, zas, zat, zau, zav, zaw, zax, zay, zaz, zba, zbb, zbc, zbd, zbe, go_b, zbf, zbg, zbh, zbi, zbj, zbk, zbl, zbm, zbd, zbe, zbn, zbo, zbp, zbq, zbr, zbw, zbx, zby, zbz, zca, zcb, zcc, zcd, zce, zcf, zcg, zch, zci, zcj, zck, zcl, zcm, zcn, zco, zcp, zcq, zcr, zcs, zct, zcu, zcv, zcw, zcx, zcy, zcz, zda, zdb, zdc, zdd, zde, zdf, zdg, zdh, zdi, zdj, zdk, zdl, zdm, zdn, zdo, zdp, zdq, zdr, zds, zdt, zdu, zdv, zdw, zdx, zdy, zdz, zea, zeb, zec, zed, zee, zef, zeg, zeh, zei, zej, zek, zel, zem, zen, zeo, zep, zeq, zer, zes, zet, zeu, zev, zew, zex, zey, zez, zfa, zfb, zfc, zfd, zfe, zff, zfg, zfh, zfi, zfj, zfk, zgh, zgi, zgj, zgk, zgl, zgm, zgn, zgo, zgp, zgq, zgr, zgs, zgt, zgu, Nat.reduceShiftRight, Nat.reduceMod, Nat.reduceEqDiff, Nat.reduceAdd, ↓reduceIte, reduceCtorEq, zgv, zgw, go_makeFunc, rMakeFunc_one]
  generalize s.new (.row (mkRow [C.str (Str.ofL name)])) = s1 at r1 n1 f1 ⊢
  refine go_call _ _ _ _ _ _ (ws := [.c d.toC, .c (.fn 36 [(s.nx, 0)])]) rfl (by simp only [zca, zcb, zcc, zcd, zce, zcf, zcg, zch, zci, zcj, zck, zcl, zcm, zcn, zco, zcp, zcq, zcr, zcs, zct, zcu, zcv, zcw, zcx, zcy, zcz, zda, zdb, zdc, zdd, zde, zdf, zdg, zdh, zdi, zdj, zdk, zdl, zdm, zdn, zdo, zdp, zdq, zdr, zds, zfj, zfk, zgl, zgm, zgn, zgo, zgp, zgq, zgr, zgs, zgt, zgu, Nat.reduceShiftRight, Nat.reduceMod, Nat.reduceEqDiff, Nat.reduceAdd, ↓reduceIte, reduceCtorEq, zgv, zgw, argsOf_cons, argsOf_nil]) ?_
  refine index35 X hX1 h36 hv hn name s1 r1 (by omega) _ fun s2 n2 f2 => ?_
  have hg2 : rowsAre s2.h.get gsE = true := rows_congr (fun p hp => by have := hgn p hp; rw [f2 _ (by omega), f1 _ this]) hg
  have hva := valV_at name vs
  by_cases hlt : idxV name vs < vs.length
  · obtain ⟨x, hx, hval⟩ := hva.1 hlt
    rw [if_pos hlt]
    have hxe : (els d)[idxV name vs]? = some (elV x) := by rw [hv.2, List.getElem?_map, hx]; rfl
    have hia := index_els (us22 X) (sz32 X) hv.1 hxe
    have hlc : ldC (elV x) 1 = some (.c (.str (Str.ofL x.2))) := rfl
    have hneg : (Int.ofNat (idxV name vs) < 0) = False := eq_false (fun h => absurd h (by show ¬ ((idxV name vs : Nat) : Int) < 0; omega))
    by_cases hz : x.2 = []
    · have hb : (x.2 == ([] : List UInt8)) = true := by rw [hz]; rfl
      rw [hval, if_pos hz] at hK
      simp only [zaa, zab, zac, zad, zae, zaf, zag, zah, zai, zaj, zak, zal, zam, zan, zao, zap, zaq, zar, zas, zat, zau, zav, zaw, zax, zay, zaz, zba, zbb, zbc, zbd, zbe, go_b, zbf, zbg, zbh, zbi, zbj, zbk, zbl, zbm, zbd, zbe, zbn, zbo, zbp, zbq, zbr, zbw, zbx, zby, zbz, zca, zcb, zcc, zcd, zce, zcf, zcg, zch, zci, zcj, zck, zcl, zcm, zcn, zco, zcp, zcq, zcr, zcs, zct, zcu, zcv, zcw, zcx, zcy, zcz, zda, zdb, zdc, zdd, zde, zdf, zdg, zdh, zdi, zdj, zdk, zdl, zdm, zdn, zdo, zdp, zdq, zdr, zds, zdt, zdu, zdv, zdw, zdx, zdy, zdz, zea, zeb, zec, zed, zee, zef, zeg, zeh, zei, zej, zek, zel, zem, zen, zeo, zep, zeq, zer, zes, zet, zeu, zev, zew, zex, zey, zez, zfa, zfb, zfc, zfd, zfe, zff, zfg, zfh, zfi, zfj, zfk, zgh, zgi, zgj, zgk, zgl, zgm, zgn, zgo, zgp, zgq, zgr, zgs, zgt, zgu, Nat.reduceShiftRight, Nat.reduceMod, Nat.reduceEqDiff, Nat.reduceAdd, ↓reduceIte, reduceCtorEq, zgv, zgw, hneg, hia, fD_32_1, Nat.zero_add, ld9, hlc, lit_0, hb, hres]
      exact hK _
    · have hb : (x.2 == ([] : List UInt8)) = false := by simpa using hz
      rw [hval, if_neg hz] at hK
      simp only [zaa, zab, zac, zad, zae, zaf, zag, zah, zai, zaj, zak, zal, zam, zan, zao, zap, zaq, zar, zas, zat, zau, zav, zaw, zax, zay, zaz, zba, zbb, zbc, zbd, zbe, go_b, zbf, zbg, zbh, zbi, zbj, zbk, zbl, zbm, zbd, zbe, zbn, zbo, zbp, zbq, zbr, zbw, zbx, zby, zbz, zca, zcb, zcc, zcd, zce, zcf, zcg, zch, zci, zcj, zck, zcl, zcm, zcn, zco, zcp, zcq, zcr, zcs, zct, zcu, zcv, zcw, zcx, zcy, zcz, zda, zdb, zdc, zdd, zde, zdf, zdg, zdh, zdi, zdj, zdk, zdl, zdm, zdn, zdo, zdp, zdq, zdr, zds, zdt, zdu, zdv, zdw, zdx, zdy, zdz, zea, zeb, zec, zed, zee, zef, zeg, zeh, zei, zej, zek, zel, zem, zen, zeo, zep, zeq, zer, zes, zet, zeu, zev, zew, zex, zey, zez, zfa, zfb, zfc, zfd, zfe, zff, zfg, zfh, zfi, zfj, zfk, zgh, zgi, zgj, zgk, zgl, zgm, zgn, zgo, zgp, zgq, zgr, zgs, zgt, zgu, Nat.reduceShiftRight, Nat.reduceMod, Nat.reduceEqDiff, Nat.reduceAdd, ↓reduceIte, reduceCtorEq, zgv, zgw, hneg, hia, fD_32_1, Nat.zero_add, ld9, hlc, lit_0, hb]
      refine go_call _ _ _ _ _ _ (ws := [.c (.str (Str.ofL x.2))]) rfl (by simp only [zca, zcb, zcc, zcd, zce, zcf, zcg, zch, zci, zcj, zck, zcl, zcm, zcn, zco, zcp, zcq, zcr, zcs, zct, zcu, zcv, zcw, zcx, zcy, zcz, zda, zdb, zdc, zdd, zde, zdf, zdg, zdh, zdi, zdj, zdk, zdl, zdm, zdn, zdo, zdp, zdq, zdr, zds, zfj, zfk, zgl, zgm, zgn, zgo, zgp, zgq, zgr, zgs, zgt, zgu, Nat.reduceShiftRight, Nat.reduceMod, Nat.reduceEqDiff, Nat.reduceAdd, ↓reduceIte, reduceCtorEq, zgv, zgw, argsOf_cons, argsOf_nil]) ?_
      refine goC_of (callR_num h15 x.2 (hvl x (List.mem_of_getElem? hx)) _ hg2) ?_
      simp only [zaa, zab, zac, zad, zae, zaf, zag, zah, zai, zaj, zak, zal, zam, zan, zao, zap, zaq, zar, zas, zat, zau, zav, zaw, zax, zay, zaz, zba, zbb, zbc, zbd, zbe, go_b, zbf, zbg, zbh, zbi, zbj, zbk, zbl, zbm, zbd, zbe, zbn, zbo, zbp, zbq, zbr, zbw, zbx, zby, zbz, zca, zcb, zcc, zcd, zce, zcf, zcg, zch, zci, zcj, zck, zcl, zcm, zcn, zco, zcp, zcq, zcr, zcs, zct, zcu, zcv, zcw, zcx, zcy, zcz, zda, zdb, zdc, zdd, zde, zdf, zdg, zdh, zdi, zdj, zdk, zdl, zdm, zdn, zdo, zdp, zdq, zdr, zds, zdt, zdu, zdv, zdw, zdx, zdy, zdz, zea, zeb, zec, zed, zee, zef, zeg, zeh, zei, zej, zek, zel, zem, zen, zeo, zep, zeq, zer, zes, zet, zeu, zev, zew, zex, zey, zez, zfa, zfb, zfc, zfd, zfe, zff, zfg, zfh, zfi, zfj, zfk, zgh, zgi, zgj, zgk, zgl, zgm, zgn, zgo, zgp, zgq, zgr, zgs, zgt, zgu, Nat.reduceShiftRight, Nat.reduceMod, Nat.reduceEqDiff, Nat.reduceAdd, ↓reduceIte, reduceCtorEq, zgv, zgw, hres]
      exact hK _
  · rw [if_neg hlt]
    have hneg : ((-1 : Int) < 0) = True := eq_true (by decide)
    rw [hva.2 hlt] at hK
    simp only [zaa, zab, zac, zad, zae, zaf, zag, zah, zai, zaj, zak, zal, zam, zan, zao, zap, zaq, zar, zas, zat, zau, zav, zaw, zax, zay, zaz, zba, zbb, zbc, zbd, zbe, go_b, zbf, zbg, zbh, zbi, zbj, zbk, zbl, zbm, zbd, zbe, zbn, zbo, zbp, zbq, zbr, zbw, zbx, zby, zbz, zca, zcb, zcc, zcd, zce, zcf, zcg, zch, zci, zcj, zck, zcl, zcm, zcn, zco, zcp, zcq, zcr, zcs, zct, zcu, zcv, zcw, zcx, zcy, zcz, zda, zdb, zdc, zdd, zde, zdf, zdg, zdh, zdi, zdj, zdk, zdl, zdm, zdn, zdo, zdp, zdq, zdr, zds, zdt, zdu, zdv, zdw, zdx, zdy, zdz, zea, zeb, zec, zed, zee, zef, zeg, zeh, zei, zej, zek, zel, zem, zen, zeo, zep, zeq, zer, zes, zet, zeu, zev, zew, zex, zey, zez, zfa, zfb, zfc, zfd, zfe, zff, zfg, zfh, zfi, zfj, zfk, zgh, zgi, zgj, zgk, zgl, zgm, zgn, zgo, zgp, zgq, zgr, zgs, zgt, zgu, Nat.reduceShiftRight, Nat.reduceMod, Nat.reduceEqDiff, Nat.reduceAdd, ↓reduceIte, reduceCtorEq, zgv, zgw, hneg, hres]
    exact hK _
def okVs (vs : List (List UInt8 × List UInt8)) : Prop := vs.length ≤ 1000 ∧ ∀ x ∈ vs, x.2.length ≤ 140737488351232
def RVal (ps : List PW) (v : PV) : Prop := ∃ name d vs, ps = [.c (.str (Str.ofL name)), .c d] ∧ IsV d vs ∧ okVs vs ∧ v = pvP (valV name vs)
theorem isV_u {d : D} {vs vs' : List (List UInt8 × List UInt8)} (h : IsV d vs) (h' : IsV d vs') : vs = vs' := by
  have e := h.2.symm.trans h'.2
  clear h h'
  induction vs generalizing vs' with
  | nil => cases vs' with
    | nil => rfl
    | cons a b => cases e
  | cons a b ih => cases vs' with
    | nil => cases e
    | cons c f =>
      simp only [List.map_cons, List.cons.injEq, elV, D.str.injEq, and_true] at e
      rw [ih e.2, Prod.ext (ofL_inj e.1.1) (ofL_inj e.1.2)]
theorem isV_plain {d : D} {vs : List (List UInt8 × List UInt8)} (h : IsV d vs) : d.plain = true := by
  rcases h.1 with rfl | ⟨l, rfl, _⟩ <;> rfl
noncomputable def e20 : Nat × Ext := (20, .fn (ofG RVal) gsE)
theorem c20 : Ok e20 := fn_of_go_g (exts := [e4]) (ok1 c4 ok0) rfl gsE gsE_ok _ (by
  rintro ps pv ⟨name, d, vs, rfl, hv, ⟨h1, h2⟩, rfl⟩
  exact value20 _ rfl rfl rfl rfl hv h1 h2 name _ (by kernel_rfl) (by decide) _ fun s' => ⟨[], rfl⟩)
theorem callR_val {X : T Ext} (h20 : (En X).ext.get 20 = some (.fn (ofG RVal) gsE)) (name : List UInt8) {d : D} {vs : List (List UInt8 × List UInt8)} (hv : IsV d vs) (ho : okVs vs) (s : St) (hg : rowsAre s.h.get gsE = true) : CallR (En X) 20 [.c (.str (Str.ofL name)), .c d.toC] s (pvP (valV name vs)).toV s :=
  callR_fn_g (ps := [.c (.str (Str.ofL name)), .c d]) (pv := pvP (valV name vs)) h20 hg (ofG_eq ⟨name, d, vs, rfl, hv, ho, rfl⟩ (by
    rintro v' ⟨n', d', vs', h1, hv', _, rfl⟩
    simp only [List.cons.injEq, PW.c.injEq, D.str.injEq, and_true] at h1
    obtain ⟨h1, rfl⟩ := h1
    rw [ofL_inj h1, isV_u hv hv'])) (by simp only [List.all_cons, List.all_nil, PW.plain, isV_plain hv]; rfl)
end Ar
