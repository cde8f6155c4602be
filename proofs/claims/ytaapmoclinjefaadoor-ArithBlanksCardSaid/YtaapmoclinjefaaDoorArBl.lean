import Derived.Test.YtaapmoclinjefaaDoorArT
import Derived.Test.YtaapmoclinjefaaDoorArZ
namespace Ar
open Go Go.Proofs Ev Go.Lib Nu
set_option linter.unusedVariables false
set_option linter.unusedSimpArgs false
set_option linter.unnecessarySimpa false
set_option maxRecDepth 100000
theorem callR_ev {X : T Ext} (h6 : (En X).ext.get 6 = some (.fn (ofG REv) gsE)) {l : List UInt8} (hl : l.length ≤ 900) {t : Tr} {l' : List UInt8} {b' : Bool} (hp : Ps .X l false t l' b') {d : D} {vs : List (List UInt8 × List UInt8)} (hv : IsV d vs) (ho : okVs vs) {s : St} (hg : rowsAre s.h.get gsE = true) :
    CallR (En X) 6 [.c (.str (Str.ofL l)), .c d.toC] s (pvE (evalF vs t l' b')).toV s :=
  callR_fn_g (ps := [.c (.str (Str.ofL l)), .c d]) (pv := pvE (evalF vs t l' b')) h6 hg (ofG_eq ⟨l, d, vs, t, l', b', rfl, hl, hp, hv, ho, rfl⟩ fun v' h => rev_u hp hv h) (by simp only [List.all_cons, List.all_nil, PW.plain, isV_plain hv]; rfl)
theorem toV_pvE' (p : Int × Int) : (pvE p).toV = .tup [.c (.int .i64 p.1), .c (.int .i64 p.2)] := rfl
theorem lit_b1 : Str.of { data := #[32, 9] } = Str.ofL [32, 9] := of_lit _
theorem lit_b2 : Str.of { data := #[32, 10] } = Str.ofL [32, 10] := of_lit _
theorem evalF_form {vs : List (List UInt8 × List UInt8)} {t : Tr} {l' : List UInt8} {b' : Bool} (h : (evalF vs t l' b').2 ≠ 2) : b' = false ∧ dropBl l' = [] := by
  unfold evalF at h
  by_cases hc : b' = true ∨ dropBl l' ≠ []
  · rw [if_pos hc] at h; exact absurd rfl h
  · refine ⟨by cases b' with | false => rfl | true => exact absurd (.inl rfl) hc, ?_⟩
    by_cases hz : dropBl l' = []
    · exact hz
    · exact absurd (.inr hz) hc
theorem evalF_same {vs : List (List UInt8 × List UInt8)} {t t2 : Tr} {l' l2 : List UInt8} {b' : Bool} (h : b' = false → t2 = t ∧ (dropBl l2 = [] ↔ dropBl l' = [])) : evalF vs t2 l2 b' = evalF vs t l' b' := by
  cases b' with
  | true => unfold evalF; rw [if_pos (.inl rfl), if_pos (.inl rfl)]
  | false =>
    obtain ⟨rfl, h2⟩ := h rfl
    unfold evalF
    by_cases hz : dropBl l' = []
    · rw [hz, h2.2 hz]
    · rw [if_pos (.inr fun e => hz (h2.1 e)), if_pos (.inr hz)]
theorem blanks5 (X : T Ext) (hX : (En X).ext.get 5 = none) (h6 : (En X).ext.get 6 = some (.fn (ofG REv) gsE)) (h8 : (En X).ext.get 8 = some (.const (.bool true) Ak.gs)) (l : List UInt8) {d : D} {vs : List (List UInt8 × List UInt8)} (hv : IsV d vs) (hvl : ∀ x ∈ vs, x.2.length ≤ 140737488351232) (s : St)
    (hgE : rowsAre s.h.get gsE = true) (hgK : rowsAre s.h.get Ak.gs = true) (K : V → St → Prop) (hK : ∀ s', K (vc (.bool true)) s') : goC (En X) 5 [.c (.str (Str.ofL l)), .c d.toC] s K := by
  refine goC_body hX (kp5 X) (fn5 X) rfl (by kernel_rfl) ?_
  have hres : Tryd.f5.results.toList = [.tmp 4] := rfl
  have hlv : ∀ look, len (En X) 22 look d.toC = some vs.length := fun look => by rw [len_els (us22 X) hv.1, hv.2, List.length_map]
  by_cases g1 : (200 : Int) < Int.ofNat l.length
  · have e1 := eq_true g1
    simp only [zaa, zab, zac, zad, zae, zaf, zag, zah, zai, zaj, zak, zal, zam, zan, zao, zap, zaq, zar, zas, zat, zau, zav, zaw, zax, zay, zaz, zba, zbb, zbc, zbd, zbe, go_b, zbf, zbg, zbh, zbi, zbj, zbk, zbl, zbm, zbd, zbe, zbn, zbo, zbp, zbq, zbr, zbw, zbx, zby, zbz, zca, zcb, zcc, zcd, zce, zcf, zcg, zch, zci, zcj, zck, zcl, zcm, zcn, zco, zcp, zcq, zcr, zcs, zct, zcu, zcv, zcw, zcx, zcy, zcz, zda, zdb, zdc, zdd, zde, zdf, zdg, zdh, zdi, zdj, zdk, zdl, zdm, zdn, zdo, zdp, zdq, zdr, zds, zdt, zdu, zdv, zdw, zdx, zdy, zdz, zea, zeb, zec, zed, zee, zef, zeg, zeh, zei, zej, zek, zel, zem, zen, zeo, zep, zeq, zer, zes, zet, zeu, zev, zew, zex, zey, zez, zfa, zfb, zfc, zfd, zfe, zff, zfg, zfh, zfi, zfj, zfk, zgh, zgi, zgj, zgk, zgl, zgm, zgn, zgo, zgp, zgq, zgr, zgs, zgt, zgu, Nat.reduceShiftRight, Nat.reduceMod, Nat.reduceEqDiff, Nat.reduceAdd, ↓reduceIte, reduceCtorEq, zgv, zgw, len_str, e1, hres]
    exact hK _
  by_cases g2 : (20 : Int) < Int.ofNat vs.length
  · have e1 := eq_false g1
    have e2 := eq_true g2
    simp only [zaa, zab, zac, zad, zae, zaf, zag, zah, zai, zaj, zak, zal, zam, zan, zao, zap, zaq, zar, zas, zat, zau, zav, zaw, zax, zay, zaz, zba, zbb, zbc, zbd, zbe, go_b, zbf, zbg, zbh, zbi, zbj, zbk, zbl, zbm, zbd, zbe, zbn, zbo, zbp, zbq, zbr, zbw, zbx, zby, zbz, zca, zcb, zcc, zcd, zce, zcf, zcg, zch, zci, zcj, zck, zcl, zcm, zcn, zco, zcp, zcq, zcr, zcs, zct, zcu, zcv, zcw, zcx, zcy, zcz, zda, zdb, zdc, zdd, zde, zdf, zdg, zdh, zdi, zdj, zdk, zdl, zdm, zdn, zdo, zdp, zdq, zdr, zds, zdt, zdu, zdv, zdw, zdx, zdy, zdz, zea, zeb, zec, zed, zee, zef, zeg, zeh, zei, zej, zek, zel, zem, zen, zeo, zep, zeq, zer, zes, zet, zeu, zev, zew, zex, zey, zez, zfa, zfb, zfc, zfd, zfe, zff, zfg, zfh, zfi, zfj, zfk, zgh, zgi, zgj, zgk, zgl, zgm, zgn, zgo, zgp, zgq, zgr, zgs, zgt, zgu, Nat.reduceShiftRight, Nat.reduceMod, Nat.reduceEqDiff, Nat.reduceAdd, ↓reduceIte, reduceCtorEq, zgv, zgw, len_str, hlv, e1, e2, hres]
    exact hK _
  have e1 := eq_false g1
  have e2 := eq_false g2
  have hl : l.length ≤ 200 := by have : ¬ (200 : Int) < ((l.length : Nat) : Int) := g1; omega
  have hn : vs.length ≤ 20 := by have : ¬ (20 : Int) < ((vs.length : Nat) : Int) := g2; omega
  have ho : okVs vs := ⟨by omega, hvl⟩
  obtain ⟨t, l', b', hp⟩ := totX l false
  obtain ⟨t2, l2, hp2, hs2⟩ := blanks_around hp
  obtain ⟨t3, l3, b3, hp3⟩ := totX ([40] ++ l ++ [41]) false
  have hq2 := evalF_same (vs := vs) hs2
  have hq3 : (evalF vs t l' b').2 = 2 ∨ evalF vs t3 l3 b3 = evalF vs t l' b' := by
    by_cases hf : (evalF vs t l' b').2 = 2
    · exact .inl hf
    · obtain ⟨rfl, hz⟩ := evalF_form hf
      obtain ⟨rfl, rfl, rfl⟩ := (parens hp hz).det hp3
      exact .inr (evalF_same fun _ => ⟨rfl, ⟨fun _ => hz, fun _ => rfl⟩⟩)
  simp only [zaa, zab, zac, zad, zae, zaf, zag, zah, zai, zaj, zak, zal, zam, zan, zao, zap, zaq, zar, zas, zat, zau, zav, zaw, zax, zay, zaz, zba, zbb, zbc, zbd, zbe, go_b, zbf, zbg, zbh, zbi, zbj, zbk, zbl, zbm, zbd, zbe, zbn, zbo, zbp, zbq, zbr, zbw, zbx, zby, zbz, zca, zcb, zcc, zcd, zce, zcf, zcg, zch, zci, zcj, zck, zcl, zcm, zcn, zco, zcp, zcq, zcr, zcs, zct, zcu, zcv, zcw, zcx, zcy, zcz, zda, zdb, zdc, zdd, zde, zdf, zdg, zdh, zdi, zdj, zdk, zdl, zdm, zdn, zdo, zdp, zdq, zdr, zds, zdt, zdu, zdv, zdw, zdx, zdy, zdz, zea, zeb, zec, zed, zee, zef, zeg, zeh, zei, zej, zek, zel, zem, zen, zeo, zep, zeq, zer, zes, zet, zeu, zev, zew, zex, zey, zez, zfa, zfb, zfc, zfd, zfe, zff, zfg, zfh, zfi, zfj, zfk, zgh, zgi, zgj, zgk, zgl, zgm, zgn, zgo, zgp, zgq, zgr, zgs, zgt, zgu, Nat.reduceShiftRight, Nat.reduceMod, Nat.reduceEqDiff, Nat.reduceAdd, ↓reduceIte, reduceCtorEq, zgv, zgw, len_str, hlv, e1, e2]
  refine go_call _ _ _ _ _ _ (ws := [.c (.str (Str.ofL l)), .c d.toC]) rfl (by simp only [zca, zcb, zcc, zcd, zce, zcf, zcg, zch, zci, zcj, zck, zcl, zcm, zcn, zco, zcp, zcq, zcr, zcs, zct, zcu, zcv, zcw, zcx, zcy, zcz, zda, zdb, zdc, zdd, zde, zdf, zdg, zdh, zdi, zdj, zdk, zdl, zdm, zdn, zdo, zdp, zdq, zdr, zds, zfj, zfk, zgl, zgm, zgn, zgo, zgp, zgq, zgr, zgs, zgt, zgu, Nat.reduceShiftRight, Nat.reduceMod, Nat.reduceEqDiff, Nat.reduceAdd, ↓reduceIte, reduceCtorEq, zgv, zgw, argsOf_cons, argsOf_nil]) ?_
  refine goC_of (callR_ev h6 (by omega) hp hv ho hgE) ?_
  rw [toV_pvE']
  have s1 := fun ox oy => b_sadd (En X) 9 ox oy [32, 9] l (by simp; omega)
  have s2 := fun ox oy => b_sadd (En X) 9 ox oy ([32, 9] ++ l) [32, 10] (by simp; omega)
  have s3 := fun ox oy => b_sadd (En X) 9 ox oy [40] l (by simp; omega)
  have s4 := fun ox oy => b_sadd (En X) 9 ox oy ([40] ++ l) [41] (by simp; omega)
  simp only [zaa, zab, zac, zad, zae, zaf, zag, zah, zai, zaj, zak, zal, zam, zan, zao, zap, zaq, zar, zas, zat, zau, zav, zaw, zax, zay, zaz, zba, zbb, zbc, zbd, zbe, go_b, zbf, zbg, zbh, zbi, zbj, zbk, zbl, zbm, zbd, zbe, zbn, zbo, zbp, zbq, zbr, zbw, zbx, zby, zbz, zca, zcb, zcc, zcd, zce, zcf, zcg, zch, zci, zcj, zck, zcl, zcm, zcn, zco, zcp, zcq, zcr, zcs, zct, zcu, zcv, zcw, zcx, zcy, zcz, zda, zdb, zdc, zdd, zde, zdf, zdg, zdh, zdi, zdj, zdk, zdl, zdm, zdn, zdo, zdp, zdq, zdr, zds, zdt, zdu, zdv, zdw, zdx, zdy, zdz, zea, zeb, zec, zed, zee, zef, zeg, zeh, zei, zej, zek, zel, zem, zen, zeo, zep, zeq, zer, zes, zet, zeu, zev, zew, zex, zey, zez, zfa, zfb, zfc, zfd, zfe, zff, zfg, zfh, zfi, zfj, zfk, zgh, zgi, zgj, zgk, zgl, zgm, zgn, zgo, zgp, zgq, zgr, zgs, zgt, zgu, Nat.reduceShiftRight, Nat.reduceMod, Nat.reduceEqDiff, Nat.reduceAdd, ↓reduceIte, reduceCtorEq, zgv, zgw, lit_b1, lit_b2, s1, s2]
  refine go_call _ _ _ _ _ _ (ws := [.c (.str (Str.ofL ([32, 9] ++ l ++ [32, 10]))), .c d.toC]) rfl (by simp only [zca, zcb, zcc, zcd, zce, zcf, zcg, zch, zci, zcj, zck, zcl, zcm, zcn, zco, zcp, zcq, zcr, zcs, zct, zcu, zcv, zcw, zcx, zcy, zcz, zda, zdb, zdc, zdd, zde, zdf, zdg, zdh, zdi, zdj, zdk, zdl, zdm, zdn, zdo, zdp, zdq, zdr, zds, zfj, zfk, zgl, zgm, zgn, zgo, zgp, zgq, zgr, zgs, zgt, zgu, Nat.reduceShiftRight, Nat.reduceMod, Nat.reduceEqDiff, Nat.reduceAdd, ↓reduceIte, reduceCtorEq, zgv, zgw, argsOf_cons, argsOf_nil]) ?_
  refine goC_of (callR_ev h6 (by simp; omega) hp2 hv ho hgE) ?_
  rw [toV_pvE', hq2]
  simp only [zaa, zab, zac, zad, zae, zaf, zag, zah, zai, zaj, zak, zal, zam, zan, zao, zap, zaq, zar, zas, zat, zau, zav, zaw, zax, zay, zaz, zba, zbb, zbc, zbd, zbe, go_b, zbf, zbg, zbh, zbi, zbj, zbk, zbl, zbm, zbd, zbe, zbn, zbo, zbp, zbq, zbr, zbw, zbx, zby, zbz, zca, zcb, zcc, zcd, zce, zcf, zcg, zch, zci, zcj, zck, zcl, zcm, zcn, zco, zcp, zcq, zcr, zcs, zct, zcu, zcv, zcw, zcx, zcy, zcz, zda, zdb, zdc, zdd, zde, zdf, zdg, zdh, zdi, zdj, zdk, zdl, zdm, zdn, zdo, zdp, zdq, zdr, zds, zdt, zdu, zdv, zdw, zdx, zdy, zdz, zea, zeb, zec, zed, zee, zef, zeg, zeh, zei, zej, zek, zel, zem, zen, zeo, zep, zeq, zer, zes, zet, zeu, zev, zew, zex, zey, zez, zfa, zfb, zfc, zfd, zfe, zff, zfg, zfh, zfi, zfj, zfk, zgh, zgi, zgj, zgk, zgl, zgm, zgn, zgo, zgp, zgq, zgr, zgs, zgt, zgu, Nat.reduceShiftRight, Nat.reduceMod, Nat.reduceEqDiff, Nat.reduceAdd, ↓reduceIte, reduceCtorEq, zgv, zgw, lit_par, lit_rap, s3, s4]
  refine go_call _ _ _ _ _ _ (ws := [.c (.str (Str.ofL ([40] ++ l ++ [41]))), .c d.toC]) rfl (by simp only [zca, zcb, zcc, zcd, zce, zcf, zcg, zch, zci, zcj, zck, zcl, zcm, zcn, zco, zcp, zcq, zcr, zcs, zct, zcu, zcv, zcw, zcx, zcy, zcz, zda, zdb, zdc, zdd, zde, zdf, zdg, zdh, zdi, zdj, zdk, zdl, zdm, zdn, zdo, zdp, zdq, zdr, zds, zfj, zfk, zgl, zgm, zgn, zgo, zgp, zgq, zgr, zgs, zgt, zgu, Nat.reduceShiftRight, Nat.reduceMod, Nat.reduceEqDiff, Nat.reduceAdd, ↓reduceIte, reduceCtorEq, zgv, zgw, argsOf_cons, argsOf_nil]) ?_
  refine goC_of (callR_ev h6 (by simp; omega) hp3 hv ho hgE) ?_
  rw [toV_pvE']
  generalize evalF vs t l' b' = p at *
  generalize evalF vs t3 l3 b3 = q at *
  have y1 : (p.1 = p.1) = True := eq_true rfl
  have y2 : (p.2 = p.2) = True := eq_true rfl
  by_cases hf : p.2 = 2
  · have y3 := eq_true hf
    simp only [zaa, zab, zac, zad, zae, zaf, zag, zah, zai, zaj, zak, zal, zam, zan, zao, zap, zaq, zar, zas, zat, zau, zav, zaw, zax, zay, zaz, zba, zbb, zbc, zbd, zbe, go_b, zbf, zbg, zbh, zbi, zbj, zbk, zbl, zbm, zbd, zbe, zbn, zbo, zbp, zbq, zbr, zbw, zbx, zby, zbz, zca, zcb, zcc, zcd, zce, zcf, zcg, zch, zci, zcj, zck, zcl, zcm, zcn, zco, zcp, zcq, zcr, zcs, zct, zcu, zcv, zcw, zcx, zcy, zcz, zda, zdb, zdc, zdd, zde, zdf, zdg, zdh, zdi, zdj, zdk, zdl, zdm, zdn, zdo, zdp, zdq, zdr, zds, zdt, zdu, zdv, zdw, zdx, zdy, zdz, zea, zeb, zec, zed, zee, zef, zeg, zeh, zei, zej, zek, zel, zem, zen, zeo, zep, zeq, zer, zes, zet, zeu, zev, zew, zex, zey, zez, zfa, zfb, zfc, zfd, zfe, zff, zfg, zfh, zfi, zfj, zfk, zgh, zgi, zgj, zgk, zgl, zgm, zgn, zgo, zgp, zgq, zgr, zgs, zgt, zgu, Nat.reduceShiftRight, Nat.reduceMod, Nat.reduceEqDiff, Nat.reduceAdd, ↓reduceIte, reduceCtorEq, zgv, zgw, y1, y2, y3]
    refine go_call _ _ _ _ _ _ (ws := []) (g := 8) (cap := []) rfl rfl ?_
    refine goC_of (known_call h8 hgK) ?_
    simp only [zaa, zab, zac, zad, zae, zaf, zag, zah, zai, zaj, zak, zal, zam, zan, zao, zap, zaq, zar, zas, zat, zau, zav, zaw, zax, zay, zaz, zba, zbb, zbc, zbd, zbe, go_b, zbf, zbg, zbh, zbi, zbj, zbk, zbl, zbm, zbd, zbe, zbn, zbo, zbp, zbq, zbr, zbw, zbx, zby, zbz, zca, zcb, zcc, zcd, zce, zcf, zcg, zch, zci, zcj, zck, zcl, zcm, zcn, zco, zcp, zcq, zcr, zcs, zct, zcu, zcv, zcw, zcx, zcy, zcz, zda, zdb, zdc, zdd, zde, zdf, zdg, zdh, zdi, zdj, zdk, zdl, zdm, zdn, zdo, zdp, zdq, zdr, zds, zdt, zdu, zdv, zdw, zdx, zdy, zdz, zea, zeb, zec, zed, zee, zef, zeg, zeh, zei, zej, zek, zel, zem, zen, zeo, zep, zeq, zer, zes, zet, zeu, zev, zew, zex, zey, zez, zfa, zfb, zfc, zfd, zfe, zff, zfg, zfh, zfi, zfj, zfk, zgh, zgi, zgj, zgk, zgl, zgm, zgn, zgo, zgp, zgq, zgr, zgs, zgt, zgu, Nat.reduceShiftRight, Nat.reduceMod, Nat.reduceEqDiff, Nat.reduceAdd, ↓reduceIte, reduceCtorEq, zgv, zgw, hres]
    exact hK _
  · obtain rfl : q = p := hq3.resolve_left hf
    have y3 := eq_false hf
    simp only [zaa, zab, zac, zad, zae, zaf, zag, zah, zai, zaj, zak, zal, zam, zan, zao, zap, zaq, zar, zas, zat, zau, zav, zaw, zax, zay, zaz, zba, zbb, zbc, zbd, zbe, go_b, zbf, zbg, zbh, zbi, zbj, zbk, zbl, zbm, zbd, zbe, zbn, zbo, zbp, zbq, zbr, zbw, zbx, zby, zbz, zca, zcb, zcc, zcd, zce, zcf, zcg, zch, zci, zcj, zck, zcl, zcm, zcn, zco, zcp, zcq, zcr, zcs, zct, zcu, zcv, zcw, zcx, zcy, zcz, zda, zdb, zdc, zdd, zde, zdf, zdg, zdh, zdi, zdj, zdk, zdl, zdm, zdn, zdo, zdp, zdq, zdr, zds, zdt, zdu, zdv, zdw, zdx, zdy, zdz, zea, zeb, zec, zed, zee, zef, zeg, zeh, zei, zej, zek, zel, zem, zen, zeo, zep, zeq, zer, zes, zet, zeu, zev, zew, zex, zey, zez, zfa, zfb, zfc, zfd, zfe, zff, zfg, zfh, zfi, zfj, zfk, zgh, zgi, zgj, zgk, zgl, zgm, zgn, zgo, zgp, zgq, zgr, zgs, zgt, zgu, Nat.reduceShiftRight, Nat.reduceMod, Nat.reduceEqDiff, Nat.reduceAdd, ↓reduceIte, reduceCtorEq, zgv, zgw, y1, y2, y3]
    refine go_call _ _ _ _ _ _ (ws := []) (g := 8) (cap := []) rfl rfl ?_
    refine goC_of (known_call h8 hgK) ?_
    simp only [zaa, zab, zac, zad, zae, zaf, zag, zah, zai, zaj, zak, zal, zam, zan, zao, zap, zaq, zar, zas, zat, zau, zav, zaw, zax, zay, zaz, zba, zbb, zbc, zbd, zbe, go_b, zbf, zbg, zbh, zbi, zbj, zbk, zbl, zbm, zbd, zbe, zbn, zbo, zbp, zbq, zbr, zbw, zbx, zby, zbz, zca, zcb, zcc, zcd, zce, zcf, zcg, zch, zci, zcj, zck, zcl, zcm, zcn, zco, zcp, zcq, zcr, zcs, zct, zcu, zcv, zcw, zcx, zcy, zcz, zda, zdb, zdc, zdd, zde, zdf, zdg, zdh, zdi, zdj, zdk, zdl, zdm, zdn, zdo, zdp, zdq, zdr, zds, zdt, zdu, zdv, zdw, zdx, zdy, zdz, zea, zeb, zec, zed, zee, zef, zeg, zeh, zei, zej, zek, zel, zem, zen, zeo, zep, zeq, zer, zes, zet, zeu, zev, zew, zex, zey, zez, zfa, zfb, zfc, zfd, zfe, zff, zfg, zfh, zfi, zfj, zfk, zgh, zgi, zgj, zgk, zgl, zgm, zgn, zgo, zgp, zgq, zgr, zgs, zgt, zgu, Nat.reduceShiftRight, Nat.reduceMod, Nat.reduceEqDiff, Nat.reduceAdd, ↓reduceIte, reduceCtorEq, zgv, zgw, hres]
    exact hK _
def RLawB (ps : List PW) (v : PV) : Prop := ∃ l d vs, ps = [.c (.str (Str.ofL l)), .c d] ∧ IsV d vs ∧ (∀ x ∈ vs, x.2.length ≤ 140737488351232) ∧ v = .w (.c (.bool true))
noncomputable def e8k' : Nat × Ext := (8, .const (.bool true) Ak.gs)
theorem c8k' : Ok e8k' := Ak.known_ok
theorem blanks_pure : PureOk Tryd.prog 5 Ak.gs (ofG RLawB) :=
  law_pure (exts := [e6, e8k']) Ak.any_ok types_ok fns_ok (oks1 c6 (oks1 c8k' oks0)) (f := 5) rfl Ak.gs _ fun ps pv hp => by
    obtain ⟨l, d, vs, rfl, hv, hvl, rfl⟩ := hp
    exact blanks5 _ rfl rfl rfl l hv hvl _ (by kernel_rfl) (by kernel_rfl) _ fun s' => ⟨[], rfl⟩
def GoodV (d : D) : Prop := ∃ vs, IsV d vs ∧ ∀ x ∈ vs, x.2.length ≤ 140737488351232
theorem blanks_val {l : List UInt8} {d : D} (h : GoodV d) : ofG RLawB [.c (.str (Str.ofL l)), .c d] = some (.w (.c (.bool true))) := by
  obtain ⟨vs, h1, h2⟩ := h
  exact ofG_eq ⟨l, d, vs, rfl, h1, h2, rfl⟩ (by rintro v' ⟨_, _, _, _, _, _, rfl⟩; rfl)
/-! shapes -/
theorem w_str {P : Program} {B : Nat} {t : TypeId} (hu : P.underlying t = some .string) {ds : List D} (h : ShapeW P B t ds) : ∃ l, ds = [.str (Str.ofL l)] ∧ l.length ≤ B := Ev.w_str hu h
section
variable {P : Program} {B : Nat}
theorem w_struct {t : TypeId} {fs : Array Field} (hu : P.underlying t = some (.struct fs)) {ds : List D} (h : ShapeW P B t ds) : ShapeWF P B fs.toList ds := by
  cases h with
  | bool _ b h => rw [hu] at h; cases h
  | int _ k n h => rw [hu] at h; cases h
  | str _ l h => rw [hu] at h; cases h
  | nils _ e' h => rw [hu] at h; cases h
  | sl _ e' l h => rw [hu] at h; cases h
  | struct _ fs l h h1 => rw [hu] at h; cases h; exact h1
theorem w_cons {f : Field} {fs : List Field} {ds : List D} (h : ShapeWF P B (f :: fs) ds) : ∃ x l, ds = x ++ l ∧ ShapeW P B f.type x ∧ ShapeWF P B fs l := by
  cases h with
  | cons _ _ x l h1 h2 => exact ⟨x, l, rfl, h1, h2⟩
theorem w_nil {ds : List D} (h : ShapeWF P B [] ds) : ds = [] := by
  cases h; rfl
end
theorem w32 {x : List D} (h : ShapeW Tryd.prog reachBytes 32 x) : ∃ y : List UInt8 × List UInt8, x = elV y ∧ y.2.length ≤ reachBytes := by
  obtain ⟨a, l, rfl, h1, h⟩ := w_cons (w_struct Tryd.underlying32 h)
  obtain ⟨b, l, rfl, h2, h⟩ := w_cons h
  obtain rfl := w_nil h
  obtain ⟨a, rfl, _⟩ := Ev.w_str Tryd.underlying9 h1
  obtain ⟨b, rfl, hb⟩ := Ev.w_str Tryd.underlying9 h2
  exact ⟨(a, b), rfl, hb⟩
theorem w32s : ∀ {l : List (List D)}, (∀ x ∈ l, ShapeW Tryd.prog reachBytes 32 x) → ∃ vs : List (List UInt8 × List UInt8), l = vs.map elV ∧ ∀ y ∈ vs, y.2.length ≤ reachBytes := by
  intro l
  induction l with
  | nil => intro _; exact ⟨[], rfl, fun z h => by cases h⟩
  | cons x l ih =>
    intro h
    obtain ⟨y, rfl, hy⟩ := w32 (h x (by simp))
    obtain ⟨vs, rfl, hl⟩ := ih fun y hy => h y (by simp [hy])
    exact ⟨y :: vs, rfl, fun z hz => (List.mem_cons.1 hz).elim (fun e => e ▸ hy) (hl z)⟩
theorem w22 {ds : List D} (h : ShapeW Tryd.prog reachBytes 22 ds) : ∃ d, ds = [d] ∧ GoodV d := by
  rcases w_slice Tryd.underlying22 h with rfl | ⟨l, rfl, h1, h2⟩
  · exact ⟨_, rfl, [], ⟨.inl rfl, rfl⟩, fun x h => by cases h⟩
  · obtain ⟨vs, rfl, hb⟩ := w32s h2
    exact ⟨_, rfl, vs, ⟨.inr ⟨_, rfl, fun x hx => by obtain ⟨y, _, rfl⟩ := List.mem_map.1 hx; rfl⟩, rfl⟩, hb⟩
end Ar
