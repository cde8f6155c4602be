import Derived.Test.YtaapmoclinjefaaDoorArI
namespace Ar
open Go Go.Proofs Ev Go.Lib Nu
set_option linter.unusedVariables false
set_option linter.unusedSimpArgs false
set_option linter.unnecessarySimpa false
set_option maxRecDepth 100000
theorem tw_le (p : Nat → Bool) : ∀ l, (tw p l).length ≤ l.length
  | [] => Nat.le_refl _
  | c :: l => by
    have := tw_le p l
    unfold tw at this ⊢
    rw [List.takeWhile_cons]
    split <;> simp <;> omega
theorem tw_step (p : Nat → Bool) : ∀ (l : List UInt8) (i : Nat) (c : UInt8), i ≤ (tw p l).length → l[i]? = some c → (p c.toNat = true → i + 1 ≤ (tw p l).length) ∧ (p c.toNat = false → (tw p l).length = i)
  | [], i, c, _, h => by simp at h
  | a :: l, 0, c, _, h => by
    simp at h
    subst h
    unfold tw
    rw [List.takeWhile_cons]
    constructor
    · intro h; rw [if_pos h]; simp
    · intro h; rw [if_neg (by rw [h]; simp)]; rfl
  | a :: l, i + 1, c, hi, h => by
    have hp : p a.toNat = true := by
      cases hp : p a.toNat with
      | true => rfl
      | false => unfold tw at hi; rw [List.takeWhile_cons, if_neg (by rw [hp]; simp)] at hi; simp at hi
    have e : tw p (a :: l) = a :: tw p l := by unfold tw; rw [List.takeWhile_cons, if_pos hp]
    rw [e] at hi ⊢
    have := tw_step p l i c (by simpa using hi) (by simpa using h)
    simp only [List.length_cons]
    exact ⟨fun h => by have := this.1 h; omega, fun h => by have := this.2 h; omega⟩
theorem run58 (X : T Ext) (hX : (En X).ext.get 58 = none) {g : Nat} {p : Nat → Bool} (hg : (En X).ext.get g = some (.fn (ofG (RB1 .u8 p)) [])) (l : List UInt8) (hl : l.length ≤ 140737488351232) (s : St) (K : V → St → Prop) (hK : ∀ s', K (.w (.c (.int .i64 (Int.ofNat (tw p l).length)))) s') :
    goC (En X) 58 [.c (.str (Str.ofL l)), .c (.fn g [])] s K := by
  refine goC_body hX (kp58 X) (fn58 X) rfl (by kernel_rfl) ?_
  have hres : Tryd.f58.results.toList = [.tmp 4] := rfl
  simp only [zaa, zab, zac, zad, zae, zaf, zag, zah, zai, zaj, zak, zal, zam, zan, zao, zap, zaq, zar, zas, zat, zau, zav, zaw, zax, zay, zaz, zba, zbb, zbc, zbd, zbe, go_b, zbf, zbg, zbh, zbi, zbj, zbk, zbl, zbm, zbd, zbe, zbn, zbo, zbp, zbq, zbr, zbw, zbx, zby, zbz, zca, zcb, zcc, zcd, zce, zcf, zcg, zch, zci, zcj, zck, zcl, zcm, zcn, zco, zcp, zcq, zcr, zcs, zct, zcu, zcv, zcw, zcx, zcy, zcz, zda, zdb, zdc, zdd, zde, zdf, zdg, zdh, zdi, zdj, zdk, zdl, zdm, zdn, zdo, zdp, zdq, zdr, zds, zdt, zdu, zdv, zdw, zdx, zdy, zdz, zea, zeb, zec, zed, zee, zef, zeg, zeh, zei, zej, zek, zel, zem, zen, zeo, zep, zeq, zer, zes, zet, zeu, zev, zew, zex, zey, zez, zfa, zfb, zfc, zfd, zfe, zff, zfg, zfh, zfi, zfj, zfk, zgh, zgi, zgj, zgk, zgl, zgm, zgn, zgo, zgp, zgq, zgr, zgs, zgt, zgu, Nat.reduceShiftRight, Nat.reduceMod, Nat.reduceEqDiff, Nat.reduceAdd, ↓reduceIte, reduceCtorEq, zgv, zgw]
  refine go_loop (goL_inv (fun n a' s' => ∃ i, n = l.length - i ∧ i ≤ (tw p l).length ∧ Has a' 0 (vc (.str (Str.ofL l))) ∧ Has a' 1 (vc (.fn g [])) ∧ Has a' 5 (vc (.int .i64 (Int.ofNat i)))) (n := l.length)
    ⟨0, rfl, Nat.zero_le _, ⟨rfl, rfl⟩, ⟨rfl, rfl⟩, ⟨rfl, rfl⟩⟩ ?_)
  rintro n a' s' ⟨i, rfl, hi, ⟨g0, k0⟩, ⟨g1, k1⟩, ⟨g5, k5⟩⟩
  have hle := tw_le p l
  by_cases hlt : i < l.length
  · have hlt' : (Int.ofNat i < Int.ofNat l.length) = True := eq_true (Int.ofNat_lt.2 hlt)
    obtain ⟨c, hc⟩ : ∃ c, l[i]? = some c := ⟨_, List.getElem?_eq_getElem hlt⟩
    have hix := index_str X l hc
    have hst := tw_step p l i c hi hc
    have hsu := nat_succ (show i < 9223372036854775807 by omega)
    simp only [zaa, zab, zac, zad, zae, zaf, zag, zah, zai, zaj, zak, zal, zam, zan, zao, zap, zaq, zar, zas, zat, zau, zav, zaw, zax, zay, zaz, zba, zbb, zbc, zbd, zbe, go_b, zbf, zbg, zbh, zbi, zbj, zbk, zbl, zbm, zbd, zbe, zbn, zbo, zbp, zbq, zbr, zbw, zbx, zby, zbz, zca, zcb, zcc, zcd, zce, zcf, zcg, zch, zci, zcj, zck, zcl, zcm, zcn, zco, zcp, zcq, zcr, zcs, zct, zcu, zcv, zcw, zcx, zcy, zcz, zda, zdb, zdc, zdd, zde, zdf, zdg, zdh, zdi, zdj, zdk, zdl, zdm, zdn, zdo, zdp, zdq, zdr, zds, zdt, zdu, zdv, zdw, zdx, zdy, zdz, zea, zeb, zec, zed, zee, zef, zeg, zeh, zei, zej, zek, zel, zem, zen, zeo, zep, zeq, zer, zes, zet, zeu, zev, zew, zex, zey, zez, zfa, zfb, zfc, zfd, zfe, zff, zfg, zfh, zfi, zfj, zfk, zgh, zgi, zgj, zgk, zgl, zgm, zgn, zgo, zgp, zgq, zgr, zgs, zgt, zgu, Nat.reduceShiftRight, Nat.reduceMod, Nat.reduceEqDiff, Nat.reduceAdd, ↓reduceIte, reduceCtorEq, zgv, zgw, g0, k0, g1, k1, g5, k5, len_str, hlt', rIndex_eq, hix]
    refine go_call _ _ _ _ _ _ (g := g) (cap := []) (ws := [.c (.int .u8 (Int.ofNat c.toNat))]) (by simp only [zaa, zab, zac, zad, zae, zaf, zag, zah, zai, zaj, zak, zal, zam, zan, zao, zap, zaq, zar, zas, zat, zau, zav, zaw, zax, zay, zaz, zba, zbb, zbc, zbd, zbe, go_b, zbf, zbg, zbh, zbi, zbj, zbk, zbl, zbm, zbd, zbe, zbn, zbo, zbp, zbq, zbr, zbw, zbx, zby, zbz, zca, zcb, zcc, zcd, zce, zcf, zcg, zch, zci, zcj, zck, zcl, zcm, zcn, zco, zcp, zcq, zcr, zcs, zct, zcu, zcv, zcw, zcx, zcy, zcz, zda, zdb, zdc, zdd, zde, zdf, zdg, zdh, zdi, zdj, zdk, zdl, zdm, zdn, zdo, zdp, zdq, zdr, zds, zdt, zdu, zdv, zdw, zdx, zdy, zdz, zea, zeb, zec, zed, zee, zef, zeg, zeh, zei, zej, zek, zel, zem, zen, zeo, zep, zeq, zer, zes, zet, zeu, zev, zew, zex, zey, zez, zfa, zfb, zfc, zfd, zfe, zff, zfg, zfh, zfi, zfj, zfk, zgh, zgi, zgj, zgk, zgl, zgm, zgn, zgo, zgp, zgq, zgr, zgs, zgt, zgu, Nat.reduceShiftRight, Nat.reduceMod, Nat.reduceEqDiff, Nat.reduceAdd, ↓reduceIte, reduceCtorEq, zgv, zgw, g0, k0, g1, k1, g5, k5]) (by simp only [zaa, zab, zac, zad, zae, zaf, zag, zah, zai, zaj, zak, zal, zam, zan, zao, zap, zaq, zar, zas, zat, zau, zav, zaw, zax, zay, zaz, zba, zbb, zbc, zbd, zbe, go_b, zbf, zbg, zbh, zbi, zbj, zbk, zbl, zbm, zbd, zbe, zbn, zbo, zbp, zbq, zbr, zbw, zbx, zby, zbz, zca, zcb, zcc, zcd, zce, zcf, zcg, zch, zci, zcj, zck, zcl, zcm, zcn, zco, zcp, zcq, zcr, zcs, zct, zcu, zcv, zcw, zcx, zcy, zcz, zda, zdb, zdc, zdd, zde, zdf, zdg, zdh, zdi, zdj, zdk, zdl, zdm, zdn, zdo, zdp, zdq, zdr, zds, zdt, zdu, zdv, zdw, zdx, zdy, zdz, zea, zeb, zec, zed, zee, zef, zeg, zeh, zei, zej, zek, zel, zem, zen, zeo, zep, zeq, zer, zes, zet, zeu, zev, zew, zex, zey, zez, zfa, zfb, zfc, zfd, zfe, zff, zfg, zfh, zfi, zfj, zfk, zgh, zgi, zgj, zgk, zgl, zgm, zgn, zgo, zgp, zgq, zgr, zgs, zgt, zgu, Nat.reduceShiftRight, Nat.reduceMod, Nat.reduceEqDiff, Nat.reduceAdd, ↓reduceIte, reduceCtorEq, zgv, zgw, g0, k0, g1, k1, g5, k5, argsOf_cons, argsOf_nil]) ?_
    refine goC_of (callR_B1 hg c.toNat_lt _) ?_
    cases hp : p c.toNat with
    | true =>
      have h1 := hst.1 hp
      simp only [zaa, zab, zac, zad, zae, zaf, zag, zah, zai, zaj, zak, zal, zam, zan, zao, zap, zaq, zar, zas, zat, zau, zav, zaw, zax, zay, zaz, zba, zbb, zbc, zbd, zbe, go_b, zbf, zbg, zbh, zbi, zbj, zbk, zbl, zbm, zbd, zbe, zbn, zbo, zbp, zbq, zbr, zbw, zbx, zby, zbz, zca, zcb, zcc, zcd, zce, zcf, zcg, zch, zci, zcj, zck, zcl, zcm, zcn, zco, zcp, zcq, zcr, zcs, zct, zcu, zcv, zcw, zcx, zcy, zcz, zda, zdb, zdc, zdd, zde, zdf, zdg, zdh, zdi, zdj, zdk, zdl, zdm, zdn, zdo, zdp, zdq, zdr, zds, zdt, zdu, zdv, zdw, zdx, zdy, zdz, zea, zeb, zec, zed, zee, zef, zeg, zeh, zei, zej, zek, zel, zem, zen, zeo, zep, zeq, zer, zes, zet, zeu, zev, zew, zex, zey, zez, zfa, zfb, zfc, zfd, zfe, zff, zfg, zfh, zfi, zfj, zfk, zgh, zgi, zgj, zgk, zgl, zgm, zgn, zgo, zgp, zgq, zgr, zgs, zgt, zgu, Nat.reduceShiftRight, Nat.reduceMod, Nat.reduceEqDiff, Nat.reduceAdd, ↓reduceIte, reduceCtorEq, zgv, zgw, g0, k0, g1, k1, g5, k5, hp, hsu]
      refine ⟨_, ?_, i + 1, rfl, h1, ⟨?_, ?_⟩, ⟨?_, ?_⟩, ⟨?_, ?_⟩⟩
      all_goals first | (simp only [zca, zcb, zcc, zcd, zce, zcf, zcg, zch, zci, zcj, zck, zcl, zcm, zcn, zco, zcp, zcq, zcr, zcs, zct, zcu, zcv, zcw, zcx, zcy, zcz, zda, zdb, zdc, zdd, zde, zdf, zdg, zdh, zdi, zdj, zdk, zdl, zdm, zdn, zdo, zdp, zdq, zdr, zds, zfj, zfk, zgl, zgm, zgn, zgo, zgp, zgq, zgr, zgs, zgt, zgu, Nat.reduceShiftRight, Nat.reduceMod, Nat.reduceEqDiff, Nat.reduceAdd, ↓reduceIte, reduceCtorEq, zgv, zgw, g0, k0, g1, k1, g5, k5]; done) | omega
    | false =>
      have h1 := hst.2 hp
      rw [h1] at hK
      simp only [zaa, zab, zac, zad, zae, zaf, zag, zah, zai, zaj, zak, zal, zam, zan, zao, zap, zaq, zar, zas, zat, zau, zav, zaw, zax, zay, zaz, zba, zbb, zbc, zbd, zbe, go_b, zbf, zbg, zbh, zbi, zbj, zbk, zbl, zbm, zbd, zbe, zbn, zbo, zbp, zbq, zbr, zbw, zbx, zby, zbz, zca, zcb, zcc, zcd, zce, zcf, zcg, zch, zci, zcj, zck, zcl, zcm, zcn, zco, zcp, zcq, zcr, zcs, zct, zcu, zcv, zcw, zcx, zcy, zcz, zda, zdb, zdc, zdd, zde, zdf, zdg, zdh, zdi, zdj, zdk, zdl, zdm, zdn, zdo, zdp, zdq, zdr, zds, zdt, zdu, zdv, zdw, zdx, zdy, zdz, zea, zeb, zec, zed, zee, zef, zeg, zeh, zei, zej, zek, zel, zem, zen, zeo, zep, zeq, zer, zes, zet, zeu, zev, zew, zex, zey, zez, zfa, zfb, zfc, zfd, zfe, zff, zfg, zfh, zfi, zfj, zfk, zgh, zgi, zgj, zgk, zgl, zgm, zgn, zgo, zgp, zgq, zgr, zgs, zgt, zgu, Nat.reduceShiftRight, Nat.reduceMod, Nat.reduceEqDiff, Nat.reduceAdd, ↓reduceIte, reduceCtorEq, zgv, zgw, g0, k0, g1, k1, g5, k5, hp, hres]
      exact hK _
  · have hlt' : (Int.ofNat i < Int.ofNat l.length) = False := eq_false (fun h => hlt (Int.ofNat_lt.1 h))
    have h1 : (tw p l).length = i := by omega
    rw [h1] at hK
    simp only [zaa, zab, zac, zad, zae, zaf, zag, zah, zai, zaj, zak, zal, zam, zan, zao, zap, zaq, zar, zas, zat, zau, zav, zaw, zax, zay, zaz, zba, zbb, zbc, zbd, zbe, go_b, zbf, zbg, zbh, zbi, zbj, zbk, zbl, zbm, zbd, zbe, zbn, zbo, zbp, zbq, zbr, zbw, zbx, zby, zbz, zca, zcb, zcc, zcd, zce, zcf, zcg, zch, zci, zcj, zck, zcl, zcm, zcn, zco, zcp, zcq, zcr, zcs, zct, zcu, zcv, zcw, zcx, zcy, zcz, zda, zdb, zdc, zdd, zde, zdf, zdg, zdh, zdi, zdj, zdk, zdl, zdm, zdn, zdo, zdp, zdq, zdr, zds, zdt, zdu, zdv, zdw, zdx, zdy, zdz, zea, zeb, zec, zed, zee, zef, zeg, zeh, zei, zej, zek, zel, zem, zen, zeo, zep, zeq, zer, zes, zet, zeu, zev, zew, zex, zey, zez, zfa, zfb, zfc, zfd, zfe, zff, zfg, zfh, zfi, zfj, zfk, zgh, zgi, zgj, zgk, zgl, zgm, zgn, zgo, zgp, zgq, zgr, zgs, zgt, zgu, Nat.reduceShiftRight, Nat.reduceMod, Nat.reduceEqDiff, Nat.reduceAdd, ↓reduceIte, reduceCtorEq, zgv, zgw, g0, k0, g1, k1, g5, k5, len_str, hlt', hres]
    exact hK _
def RRun (ps : List PW) (v : PV) : Prop := ∃ l : List UInt8, l.length ≤ 140737488351232 ∧ ((ps = [.c (.str (Str.ofL l)), .c (.fn 59)] ∧ v = .w (.c (.int .i64 (Int.ofNat (tw digN l).length)))) ∨ (ps = [.c (.str (Str.ofL l)), .c (.fn 61)] ∧ v = .w (.c (.int .i64 (Int.ofNat (tw moreN l).length)))))
noncomputable def e58 : Nat × Ext := (58, .fn (ofG RRun) [])
theorem c58 : Ok e58 := fn_of_go_g (exts := [(59, .fn (ofG (RB1 .u8 digN)) []), (61, .fn (ofG (RB1 .u8 moreN)) [])]) (ok1 c59 (ok1 c61 ok0)) rfl [] rfl _ (by
  rintro ps pv ⟨l, hl, ⟨rfl, rfl⟩ | ⟨rfl, rfl⟩⟩
  · exact run58 _ rfl (g := 59) (p := digN) rfl l hl _ _ fun s' => ⟨[], rfl⟩
  · exact run58 _ rfl (g := 61) (p := moreN) rfl l hl _ _ fun s' => ⟨[], rfl⟩)
theorem callR_runD {X : T Ext} (h : (En X).ext.get 58 = some (.fn (ofG RRun) [])) (l : List UInt8) (hl : l.length ≤ 140737488351232) (s : St) : CallR (En X) 58 [.c (.str (Str.ofL l)), .c (.fn 59 [])] s (.w (.c (.int .i64 (Int.ofNat (tw digN l).length)))) s :=
  callR_fn (ps := [.c (.str (Str.ofL l)), .c (.fn 59)]) (pv := .w (.c (.int .i64 (Int.ofNat (tw digN l).length)))) h (ofG_eq ⟨l, hl, .inl ⟨rfl, rfl⟩⟩ (by
    rintro v' ⟨l', _, ⟨h1, rfl⟩ | ⟨h1, rfl⟩⟩
    · rw [str_one h1]
    · simp at h1)) rfl
theorem callR_runM {X : T Ext} (h : (En X).ext.get 58 = some (.fn (ofG RRun) [])) (l : List UInt8) (hl : l.length ≤ 140737488351232) (s : St) : CallR (En X) 58 [.c (.str (Str.ofL l)), .c (.fn 61 [])] s (.w (.c (.int .i64 (Int.ofNat (tw moreN l).length)))) s :=
  callR_fn (ps := [.c (.str (Str.ofL l)), .c (.fn 61)]) (pv := .w (.c (.int .i64 (Int.ofNat (tw moreN l).length)))) h (ofG_eq ⟨l, hl, .inr ⟨rfl, rfl⟩⟩ (by
    rintro v' ⟨l', _, ⟨h1, rfl⟩ | ⟨h1, rfl⟩⟩
    · simp at h1
    · rw [str_one h1])) rfl
/-! so many bytes -/
theorem cut60 (X : T Ext) (hX : (En X).ext.get 60 = none) (l : List UInt8) (n : Nat) (hn : n ≤ l.length) (bd : Bool) (b : Nat) (s : St) (K : V → St → Prop) (hr : LRow s b (cellsD (prD l bd)))
    (hK : ∀ s' : St, LRow s' b (cellsD (prD (l.drop n) bd)) → K (.w (.c (.str (Str.ofL (l.take n))))) s') : goC (En X) 60 [.c (.ptr b 0), .c (.int .i64 (Int.ofNat n))] s K := by
  refine goC_body hX (kp60 X) (fn60 X) rfl (by kernel_rfl) ?_
  have hres : Tryd.f60.results.toList = [.tmp 4] := rfl
  have c0 := pr0 hr
  have t1 : ∀ look, slice (En X) 9 (.str (Str.ofL l)) none (some (.int .i64 (Int.ofNat n))) none look = some (.str (Str.ofL (l.take n))) := fun look => slice_stake (ustr9 X) look l hn
  have t2 : ∀ look, slice (En X) 9 (.str (Str.ofL l)) (some (.int .i64 (Int.ofNat n))) none none look = some (.str (Str.ofL (l.drop n))) := fun look => slice_sdrop (ustr9 X) look l hn
  obtain ⟨s2, w1, r1, n1, f1⟩ := pr_set0 hr (l.drop n)
  have hl1 : ([.str (Str.ofL (l.drop n))] : List C).length = 1 := rfl
  simp only [zaa, zab, zac, zad, zae, zaf, zag, zah, zai, zaj, zak, zal, zam, zan, zao, zap, zaq, zar, zas, zat, zau, zav, zaw, zax, zay, zaz, zba, zbb, zbc, zbd, zbe, go_b, zbf, zbg, zbh, zbi, zbj, zbk, zbl, zbm, zbd, zbe, zbn, zbo, zbp, zbq, zbr, zbw, zbx, zby, zbz, zca, zcb, zcc, zcd, zce, zcf, zcg, zch, zci, zcj, zck, zcl, zcm, zcn, zco, zcp, zcq, zcr, zcs, zct, zcu, zcv, zcw, zcx, zcy, zcz, zda, zdb, zdc, zdd, zde, zdf, zdg, zdh, zdi, zdj, zdk, zdl, zdm, zdn, zdo, zdp, zdq, zdr, zds, zdt, zdu, zdv, zdw, zdx, zdy, zdz, zea, zeb, zec, zed, zee, zef, zeg, zeh, zei, zej, zek, zel, zem, zen, zeo, zep, zeq, zer, zes, zet, zeu, zev, zew, zex, zey, zez, zfa, zfb, zfc, zfd, zfe, zff, zfg, zfh, zfi, zfj, zfk, zgh, zgi, zgj, zgk, zgl, zgm, zgn, zgo, zgp, zgq, zgr, zgs, zgt, zgu, Nat.reduceShiftRight, Nat.reduceMod, Nat.reduceEqDiff, Nat.reduceAdd, ↓reduceIte, reduceCtorEq, zgv, zgw, lit_0, rNil_eq, fA_36_0, ldh9, c0, rSlice_lo, rSlice_hi, t1, t2, st9, hl1, w1, hres]
  exact hK _ r1
def RCut (ds : List D) (ps : List PW) (v : PV × List D) : Prop := ∃ l b n, ds = prD l b ∧ ps = [.c (.int .i64 (Int.ofNat n))] ∧ n ≤ l.length ∧ v = (.w (.c (.str (Str.ofL (l.take n)))), prD (l.drop n) b)
noncomputable def e60 : Nat × Ext := (60, .me (ofM RCut) [])
theorem c60 : Ok e60 := me_goE (exts := []) Ak.any_ok types_ok fns_ok ok0 RCut (fun _ _ _ _ x hx => by cases hx) (by
  rintro ds ps pv ds' ⟨l, b, n, rfl, rfl, hn, h⟩
  cases h
  exact cut60 _ rfl l n hn b _ _ _ (stM_LRow _ _) fun s' hr => meK (bs := []) rfl (fun h => by cases h) hr)
theorem callR_cut {X : T Ext} (h60 : (En X).ext.get 60 = some (.me (ofM RCut) [])) {l : List UInt8} {n : Nat} (hn : n ≤ l.length) {bd : Bool} {b : Nat} {s : St} (hr : LRow s b (cellsD (prD l bd))) :
    ∃ s2, CallR (En X) 60 [.c (.ptr b 0), .c (.int .i64 (Int.ofNat n))] s (.w (.c (.str (Str.ofL (l.take n))))) s2 ∧ LRow s2 b (cellsD (prD (l.drop n) bd)) ∧ s2.nx = s.nx ∧ ∀ x, x ≠ b → s2.h.get x = s.h.get x :=
  callR_me (ps := [.c (.int .i64 (Int.ofNat n))]) (pv := .w (.c (.str (Str.ofL (l.take n))))) h60 hr rfl rfl ⟨l, bd, n, rfl, rfl, hn, rfl⟩ (by
    rintro v ⟨l', b', n', h1, h2, _, rfl⟩
    obtain ⟨rfl, rfl⟩ := pr_inj h1
    simp only [List.cons.injEq, PW.c.injEq, D.int.injEq, true_and, and_true] at h2
    have h2 : ((n : Nat) : Int) = (n' : Int) := h2
    obtain rfl : n = n' := by omega
    rfl) rfl
end Ar
