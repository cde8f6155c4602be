import Derived.Test.YtaapmoclinjefaaDoorArR
namespace Ar
open Go Go.Proofs Ev Go.Lib Nu
set_option linter.unusedVariables false
set_option linter.unusedSimpArgs false
set_option linter.unnecessarySimpa false
set_option maxRecDepth 100000
/-! a tree's number -/
def evF (vs : List (List UInt8 × List UInt8)) : Tr → Int × Bool
  | .dig t => ((refNum t).getD 0, (refNum t).isSome)
  | .nam t => valV t vs
  | .un op k => if (evF vs k).2 = false then (0, false) else if op = [33] then bitF (decide ((evF vs k).1 = 0)) else (wr (0 - (evF vs k).1), !decide ((evF vs k).1 = minI))
  | .bin op a b => if (evF vs a).2 = false then (0, false) else if (evF vs b).2 = false then (0, false) else twoF op (evF vs a).1 (evF vs b).1
def WfT : Tr → Prop
  | .dig t => t.length ≤ 140737488351232
  | .nam t => True
  | .un op k => op ≠ sDig ∧ op ≠ sNam ∧ WfT k
  | .bin op a b => op ≠ sDig ∧ op ≠ sNam ∧ WfT a ∧ WfT b
def RBit (ps : List PW) (v : PV) : Prop := ∃ c, ps = [.c (.bool c)] ∧ v = pvP (bitF c)
noncomputable def e21 : Nat × Ext := (21, .fn (ofG RBit) [])
theorem c21 : Ok e21 := fn_of_go_g (exts := []) ok0 rfl [] rfl _ (by
  rintro ps pv ⟨c, rfl, rfl⟩
  exact bit21 _ rfl c _ _ fun s' => ⟨[], rfl⟩)
theorem callR_bit {X : T Ext} (h21 : (En X).ext.get 21 = some (.fn (ofG RBit) [])) (c : Bool) (s : St) : CallR (En X) 21 [.c (.bool c)] s (pvP (bitF c)).toV s :=
  callR_fn (ps := [.c (.bool c)]) (pv := pvP (bitF c)) h21 (ofG_eq ⟨c, rfl, rfl⟩ (by
    rintro v' ⟨c', h1, rfl⟩
    simp only [List.cons.injEq, PW.c.injEq, D.bool.injEq, and_true] at h1
    rw [h1])) rfl
theorem toV_pvP (p : Int × Bool) : (pvP p).toV = .tup [.c (.int .i64 p.1), .c (.bool p.2)] := rfl
theorem ix50_0 (X : T Ext) (x : List D) (r : List (List D)) : indexAddr (En X) 50 (.dat 1 (x :: r)) 0 = some (.dp x 0) := (index_dat (us50 X) (sz37 X) (x :: r) 0).trans rfl
theorem ix50_1 (X : T Ext) (x y : List D) (r : List (List D)) : indexAddr (En X) 50 (.dat 1 (x :: y :: r)) 1 = some (.dp y 0) := (index_dat (us50 X) (sz37 X) (x :: y :: r) 1).trans rfl
theorem ldC_str {l : List D} {i : Nat} {z : Str} (h : l[i]? = some (.str z)) : ldC l i = some (.c (.str z)) := by unfold ldC; rw [h]; rfl
theorem eval12 (X : T Ext) (hX : (En X).ext.get 12 = none) (h15 : (En X).ext.get 15 = some (.fn (ofG RNum) gsE)) (h20 : (En X).ext.get 20 = some (.fn (ofG RVal) gsE)) (h21 : (En X).ext.get 21 = some (.fn (ofG RBit) [])) (h22 : (En X).ext.get 22 = some (.fn (ofG RTwo) []))
    {d : D} {vs : List (List UInt8 × List UInt8)} (hv : IsV d vs) (ho : okVs vs) (s : St) (hg : rowsAre s.h.get gsE = true) : ∀ (t : Tr), WfT t → ∀ (K : V → St → Prop), K (pvP (evF vs t)).toV s → goC (En X) 12 [.c (dT t).toC, .c d.toC] s K := by
  have hres : Tryd.f12.results.toList = [.tmp 4, .tmp 5] := rfl
  intro t
  induction t with
  | dig t =>
    intro hw K hK
    refine goC_body hX (kp12 X) (fn12 X) rfl (by kernel_rfl) ?_
    have hd : (dT (.dig t)).toC = .dp [.str (Str.ofL sDig), .str (Str.ofL t), .nils] 0 := by rw [dT]; rfl
    have l0 : ldC [.str (Str.ofL sDig), .str (Str.ofL t), .nils] 0 = some (.c (.str (Str.ofL sDig))) := rfl
    have l1 : ldC [.str (Str.ofL sDig), .str (Str.ofL t), .nils] 1 = some (.c (.str (Str.ofL t))) := rfl
    have e1 : (sDig == sDig) = true := by decide
    rw [hd]
    simp only [zaa, zab, zac, zad, zae, zaf, zag, zah, zai, zaj, zak, zal, zam, zan, zao, zap, zaq, zar, zas, zat, zau, zav, zaw, zax, zay, zaz, zba, zbb, zbc, zbd, zbe, go_b, zbf, zbg, zbh, zbi, zbj, zbk, zbl, zbm, zbd, zbe, zbn, zbo, zbp, zbq, zbr, zbw, zbx, zby, zbz, zca, zcb, zcc, zcd, zce, zcf, zcg, zch, zci, zcj, zck, zcl, zcm, zcn, zco, zcp, zcq, zcr, zcs, zct, zcu, zcv, zcw, zcx, zcy, zcz, zda, zdb, zdc, zdd, zde, zdf, zdg, zdh, zdi, zdj, zdk, zdl, zdm, zdn, zdo, zdp, zdq, zdr, zds, zdt, zdu, zdv, zdw, zdx, zdy, zdz, zea, zeb, zec, zed, zee, zef, zeg, zeh, zei, zej, zek, zel, zem, zen, zeo, zep, zeq, zer, zes, zet, zeu, zev, zew, zex, zey, zez, zfa, zfb, zfc, zfd, zfe, zff, zfg, zfh, zfi, zfj, zfk, zgh, zgi, zgj, zgk, zgl, zgm, zgn, zgo, zgp, zgq, zgr, zgs, zgt, zgu, Nat.reduceShiftRight, Nat.reduceMod, Nat.reduceEqDiff, Nat.reduceAdd, ↓reduceIte, reduceCtorEq, zgv, zgw, rNil_eq, fD_52_0, fD_52_1, Nat.zero_add, ld9, l0, l1, lit_dig, e1]
    refine go_call _ _ _ _ _ _ (ws := [.c (.str (Str.ofL t))]) rfl (by simp only [zca, zcb, zcc, zcd, zce, zcf, zcg, zch, zci, zcj, zck, zcl, zcm, zcn, zco, zcp, zcq, zcr, zcs, zct, zcu, zcv, zcw, zcx, zcy, zcz, zda, zdb, zdc, zdd, zde, zdf, zdg, zdh, zdi, zdj, zdk, zdl, zdm, zdn, zdo, zdp, zdq, zdr, zds, zfj, zfk, zgl, zgm, zgn, zgo, zgp, zgq, zgr, zgs, zgt, zgu, Nat.reduceShiftRight, Nat.reduceMod, Nat.reduceEqDiff, Nat.reduceAdd, ↓reduceIte, reduceCtorEq, zgv, zgw, argsOf_cons, argsOf_nil]) ?_
    refine goC_of (callR_num h15 t hw _ hg) ?_
    simp only [zaa, zab, zac, zad, zae, zaf, zag, zah, zai, zaj, zak, zal, zam, zan, zao, zap, zaq, zar, zas, zat, zau, zav, zaw, zax, zay, zaz, zba, zbb, zbc, zbd, zbe, go_b, zbf, zbg, zbh, zbi, zbj, zbk, zbl, zbm, zbd, zbe, zbn, zbo, zbp, zbq, zbr, zbw, zbx, zby, zbz, zca, zcb, zcc, zcd, zce, zcf, zcg, zch, zci, zcj, zck, zcl, zcm, zcn, zco, zcp, zcq, zcr, zcs, zct, zcu, zcv, zcw, zcx, zcy, zcz, zda, zdb, zdc, zdd, zde, zdf, zdg, zdh, zdi, zdj, zdk, zdl, zdm, zdn, zdo, zdp, zdq, zdr, zds, zdt, zdu, zdv, zdw, zdx, zdy, zdz, zea, zeb, zec, zed, zee, zef, zeg, zeh, zei, zej, zek, zel, zem, zen, zeo, zep, zeq, zer, zes, zet, zeu, zev, zew, zex, zey, zez, zfa, zfb, zfc, zfd, zfe, zff, zfg, zfh, zfi, zfj, zfk, zgh, zgi, zgj, zgk, zgl, zgm, zgn, zgo, zgp, zgq, zgr, zgs, zgt, zgu, Nat.reduceShiftRight, Nat.reduceMod, Nat.reduceEqDiff, Nat.reduceAdd, ↓reduceIte, reduceCtorEq, zgv, zgw, hres]
    exact hK
  | nam t =>
    intro hw K hK
    refine goC_body hX (kp12 X) (fn12 X) rfl (by kernel_rfl) ?_
    have hd : (dT (.nam t)).toC = .dp [.str (Str.ofL sNam), .str (Str.ofL t), .nils] 0 := by rw [dT]; rfl
    have l0 : ldC [.str (Str.ofL sNam), .str (Str.ofL t), .nils] 0 = some (.c (.str (Str.ofL sNam))) := rfl
    have l1 : ldC [.str (Str.ofL sNam), .str (Str.ofL t), .nils] 1 = some (.c (.str (Str.ofL t))) := rfl
    have e1 : (sNam == sDig) = false := by decide
    have e2 : (sNam == sNam) = true := by decide
    rw [hd]
    simp only [zaa, zab, zac, zad, zae, zaf, zag, zah, zai, zaj, zak, zal, zam, zan, zao, zap, zaq, zar, zas, zat, zau, zav, zaw, zax, zay, zaz, zba, zbb, zbc, zbd, zbe, go_b, zbf, zbg, zbh, zbi, zbj, zbk, zbl, zbm, zbd, zbe, zbn, zbo, zbp, zbq, zbr, zbw, zbx, zby, zbz, zca, zcb, zcc, zcd, zce, zcf, zcg, zch, zci, zcj, zck, zcl, zcm, zcn, zco, zcp, zcq, zcr, zcs, zct, zcu, zcv, zcw, zcx, zcy, zcz, zda, zdb, zdc, zdd, zde, zdf, zdg, zdh, zdi, zdj, zdk, zdl, zdm, zdn, zdo, zdp, zdq, zdr, zds, zdt, zdu, zdv, zdw, zdx, zdy, zdz, zea, zeb, zec, zed, zee, zef, zeg, zeh, zei, zej, zek, zel, zem, zen, zeo, zep, zeq, zer, zes, zet, zeu, zev, zew, zex, zey, zez, zfa, zfb, zfc, zfd, zfe, zff, zfg, zfh, zfi, zfj, zfk, zgh, zgi, zgj, zgk, zgl, zgm, zgn, zgo, zgp, zgq, zgr, zgs, zgt, zgu, Nat.reduceShiftRight, Nat.reduceMod, Nat.reduceEqDiff, Nat.reduceAdd, ↓reduceIte, reduceCtorEq, zgv, zgw, rNil_eq, fD_52_0, fD_52_1, Nat.zero_add, ld9, l0, l1, lit_dig, lit_nam, e1, e2]
    refine go_call _ _ _ _ _ _ (ws := [.c (.str (Str.ofL t)), .c d.toC]) rfl (by simp only [zca, zcb, zcc, zcd, zce, zcf, zcg, zch, zci, zcj, zck, zcl, zcm, zcn, zco, zcp, zcq, zcr, zcs, zct, zcu, zcv, zcw, zcx, zcy, zcz, zda, zdb, zdc, zdd, zde, zdf, zdg, zdh, zdi, zdj, zdk, zdl, zdm, zdn, zdo, zdp, zdq, zdr, zds, zfj, zfk, zgl, zgm, zgn, zgo, zgp, zgq, zgr, zgs, zgt, zgu, Nat.reduceShiftRight, Nat.reduceMod, Nat.reduceEqDiff, Nat.reduceAdd, ↓reduceIte, reduceCtorEq, zgv, zgw, argsOf_cons, argsOf_nil]) ?_
    refine goC_of (callR_val h20 t hv ho _ hg) ?_
    simp only [zaa, zab, zac, zad, zae, zaf, zag, zah, zai, zaj, zak, zal, zam, zan, zao, zap, zaq, zar, zas, zat, zau, zav, zaw, zax, zay, zaz, zba, zbb, zbc, zbd, zbe, go_b, zbf, zbg, zbh, zbi, zbj, zbk, zbl, zbm, zbd, zbe, zbn, zbo, zbp, zbq, zbr, zbw, zbx, zby, zbz, zca, zcb, zcc, zcd, zce, zcf, zcg, zch, zci, zcj, zck, zcl, zcm, zcn, zco, zcp, zcq, zcr, zcs, zct, zcu, zcv, zcw, zcx, zcy, zcz, zda, zdb, zdc, zdd, zde, zdf, zdg, zdh, zdi, zdj, zdk, zdl, zdm, zdn, zdo, zdp, zdq, zdr, zds, zdt, zdu, zdv, zdw, zdx, zdy, zdz, zea, zeb, zec, zed, zee, zef, zeg, zeh, zei, zej, zek, zel, zem, zen, zeo, zep, zeq, zer, zes, zet, zeu, zev, zew, zex, zey, zez, zfa, zfb, zfc, zfd, zfe, zff, zfg, zfh, zfi, zfj, zfk, zgh, zgi, zgj, zgk, zgl, zgm, zgn, zgo, zgp, zgq, zgr, zgs, zgt, zgu, Nat.reduceShiftRight, Nat.reduceMod, Nat.reduceEqDiff, Nat.reduceAdd, ↓reduceIte, reduceCtorEq, zgv, zgw, toV_pvP, hres]
    exact hK
  | un op k ih =>
    rintro ⟨w1, w2, w3⟩ K hK
    refine goC_body hX (kp12 X) (fn12 X) rfl (by kernel_rfl) ?_
    have hd : (dT (.un op k)).toC = .dp [.str (Str.ofL op), .str (Str.ofL []), .sl 1 [[dT k]]] 0 := by rw [dT]; rfl
    have l0 : ldC [.str (Str.ofL op), .str (Str.ofL []), .sl 1 [[dT k]]] 0 = some (.c (.str (Str.ofL op))) := rfl
    have l2 : ldC [.str (Str.ofL op), .str (Str.ofL []), .sl 1 [[dT k]]] 2 = some (.c (.dat 1 [[dT k]])) := rfl
    have l3 : ldC [dT k] 0 = some (.c (dT k).toC) := rfl
    have hln : ∀ look, len (En X) 50 look (.dat 1 [[dT k]]) = some 1 := fun look => len_dat (us50 X) 1 [[dT k]]
    have e1 : (op == sDig) = false := by simpa using w1
    have e2 : (op == sNam) = false := by simpa using w2
    rw [hd]
    simp only [zaa, zab, zac, zad, zae, zaf, zag, zah, zai, zaj, zak, zal, zam, zan, zao, zap, zaq, zar, zas, zat, zau, zav, zaw, zax, zay, zaz, zba, zbb, zbc, zbd, zbe, go_b, zbf, zbg, zbh, zbi, zbj, zbk, zbl, zbm, zbd, zbe, zbn, zbo, zbp, zbq, zbr, zbw, zbx, zby, zbz, zca, zcb, zcc, zcd, zce, zcf, zcg, zch, zci, zcj, zck, zcl, zcm, zcn, zco, zcp, zcq, zcr, zcs, zct, zcu, zcv, zcw, zcx, zcy, zcz, zda, zdb, zdc, zdd, zde, zdf, zdg, zdh, zdi, zdj, zdk, zdl, zdm, zdn, zdo, zdp, zdq, zdr, zds, zdt, zdu, zdv, zdw, zdx, zdy, zdz, zea, zeb, zec, zed, zee, zef, zeg, zeh, zei, zej, zek, zel, zem, zen, zeo, zep, zeq, zer, zes, zet, zeu, zev, zew, zex, zey, zez, zfa, zfb, zfc, zfd, zfe, zff, zfg, zfh, zfi, zfj, zfk, zgh, zgi, zgj, zgk, zgl, zgm, zgn, zgo, zgp, zgq, zgr, zgs, zgt, zgu, Nat.reduceShiftRight, Nat.reduceMod, Nat.reduceEqDiff, Nat.reduceAdd, ↓reduceIte, reduceCtorEq, zgv, zgw, rNil_eq, fD_52_0, fD_52_2, Nat.zero_add, ld9, ld50, ld37, l0, l2, l3, lit_dig, lit_nam, e1, e2, ix50_0]
    refine go_call _ _ _ _ _ _ (ws := [.c (dT k).toC, .c d.toC]) rfl (by simp only [zca, zcb, zcc, zcd, zce, zcf, zcg, zch, zci, zcj, zck, zcl, zcm, zcn, zco, zcp, zcq, zcr, zcs, zct, zcu, zcv, zcw, zcx, zcy, zcz, zda, zdb, zdc, zdd, zde, zdf, zdg, zdh, zdi, zdj, zdk, zdl, zdm, zdn, zdo, zdp, zdq, zdr, zds, zfj, zfk, zgl, zgm, zgn, zgo, zgp, zgq, zgr, zgs, zgt, zgu, Nat.reduceShiftRight, Nat.reduceMod, Nat.reduceEqDiff, Nat.reduceAdd, ↓reduceIte, reduceCtorEq, zgv, zgw, argsOf_cons, argsOf_nil]) ?_
    refine ih w3 _ ?_
    rw [toV_pvP]
    rw [evF] at hK
    cases hk : (evF vs k).2 with
    | false =>
      rw [if_pos hk] at hK
      simp only [zaa, zab, zac, zad, zae, zaf, zag, zah, zai, zaj, zak, zal, zam, zan, zao, zap, zaq, zar, zas, zat, zau, zav, zaw, zax, zay, zaz, zba, zbb, zbc, zbd, zbe, go_b, zbf, zbg, zbh, zbi, zbj, zbk, zbl, zbm, zbd, zbe, zbn, zbo, zbp, zbq, zbr, zbw, zbx, zby, zbz, zca, zcb, zcc, zcd, zce, zcf, zcg, zch, zci, zcj, zck, zcl, zcm, zcn, zco, zcp, zcq, zcr, zcs, zct, zcu, zcv, zcw, zcx, zcy, zcz, zda, zdb, zdc, zdd, zde, zdf, zdg, zdh, zdi, zdj, zdk, zdl, zdm, zdn, zdo, zdp, zdq, zdr, zds, zdt, zdu, zdv, zdw, zdx, zdy, zdz, zea, zeb, zec, zed, zee, zef, zeg, zeh, zei, zej, zek, zel, zem, zen, zeo, zep, zeq, zer, zes, zet, zeu, zev, zew, zex, zey, zez, zfa, zfb, zfc, zfd, zfe, zff, zfg, zfh, zfi, zfj, zfk, zgh, zgi, zgj, zgk, zgl, zgm, zgn, zgo, zgp, zgq, zgr, zgs, zgt, zgu, Nat.reduceShiftRight, Nat.reduceMod, Nat.reduceEqDiff, Nat.reduceAdd, ↓reduceIte, reduceCtorEq, zgv, zgw, hk, hres]
      exact hK
    | true =>
      rw [if_neg (by rw [hk]; simp)] at hK
      have h1 : (Int.ofNat 1 = 1) = True := eq_true rfl
      by_cases hop : op = [33]
      · rw [if_pos hop] at hK
        have e3 : (op == ([33] : List UInt8)) = true := by simpa using hop
        simp only [zaa, zab, zac, zad, zae, zaf, zag, zah, zai, zaj, zak, zal, zam, zan, zao, zap, zaq, zar, zas, zat, zau, zav, zaw, zax, zay, zaz, zba, zbb, zbc, zbd, zbe, go_b, zbf, zbg, zbh, zbi, zbj, zbk, zbl, zbm, zbd, zbe, zbn, zbo, zbp, zbq, zbr, zbw, zbx, zby, zbz, zca, zcb, zcc, zcd, zce, zcf, zcg, zch, zci, zcj, zck, zcl, zcm, zcn, zco, zcp, zcq, zcr, zcs, zct, zcu, zcv, zcw, zcx, zcy, zcz, zda, zdb, zdc, zdd, zde, zdf, zdg, zdh, zdi, zdj, zdk, zdl, zdm, zdn, zdo, zdp, zdq, zdr, zds, zdt, zdu, zdv, zdw, zdx, zdy, zdz, zea, zeb, zec, zed, zee, zef, zeg, zeh, zei, zej, zek, zel, zem, zen, zeo, zep, zeq, zer, zes, zet, zeu, zev, zew, zex, zey, zez, zfa, zfb, zfc, zfd, zfe, zff, zfg, zfh, zfi, zfj, zfk, zgh, zgi, zgj, zgk, zgl, zgm, zgn, zgo, zgp, zgq, zgr, zgs, zgt, zgu, Nat.reduceShiftRight, Nat.reduceMod, Nat.reduceEqDiff, Nat.reduceAdd, ↓reduceIte, reduceCtorEq, zgv, zgw, hk, hln, h1, rNil_eq, fD_52_0, fD_52_2, Nat.zero_add, ld9, ld50, l0, l2, lit_bang, e3]
        refine go_call _ _ _ _ _ _ (ws := [.c (.bool (decide ((evF vs k).1 = 0)))]) rfl (by simp only [zca, zcb, zcc, zcd, zce, zcf, zcg, zch, zci, zcj, zck, zcl, zcm, zcn, zco, zcp, zcq, zcr, zcs, zct, zcu, zcv, zcw, zcx, zcy, zcz, zda, zdb, zdc, zdd, zde, zdf, zdg, zdh, zdi, zdj, zdk, zdl, zdm, zdn, zdo, zdp, zdq, zdr, zds, zfj, zfk, zgl, zgm, zgn, zgo, zgp, zgq, zgr, zgs, zgt, zgu, Nat.reduceShiftRight, Nat.reduceMod, Nat.reduceEqDiff, Nat.reduceAdd, ↓reduceIte, reduceCtorEq, zgv, zgw, argsOf_cons, argsOf_nil]) ?_
        refine goC_of (callR_bit h21 _ _) ?_
        simp only [zaa, zab, zac, zad, zae, zaf, zag, zah, zai, zaj, zak, zal, zam, zan, zao, zap, zaq, zar, zas, zat, zau, zav, zaw, zax, zay, zaz, zba, zbb, zbc, zbd, zbe, go_b, zbf, zbg, zbh, zbi, zbj, zbk, zbl, zbm, zbd, zbe, zbn, zbo, zbp, zbq, zbr, zbw, zbx, zby, zbz, zca, zcb, zcc, zcd, zce, zcf, zcg, zch, zci, zcj, zck, zcl, zcm, zcn, zco, zcp, zcq, zcr, zcs, zct, zcu, zcv, zcw, zcx, zcy, zcz, zda, zdb, zdc, zdd, zde, zdf, zdg, zdh, zdi, zdj, zdk, zdl, zdm, zdn, zdo, zdp, zdq, zdr, zds, zdt, zdu, zdv, zdw, zdx, zdy, zdz, zea, zeb, zec, zed, zee, zef, zeg, zeh, zei, zej, zek, zel, zem, zen, zeo, zep, zeq, zer, zes, zet, zeu, zev, zew, zex, zey, zez, zfa, zfb, zfc, zfd, zfe, zff, zfg, zfh, zfi, zfj, zfk, zgh, zgi, zgj, zgk, zgl, zgm, zgn, zgo, zgp, zgq, zgr, zgs, zgt, zgu, Nat.reduceShiftRight, Nat.reduceMod, Nat.reduceEqDiff, Nat.reduceAdd, ↓reduceIte, reduceCtorEq, zgv, zgw, toV_pvP, hres]
        exact hK
      · rw [if_neg hop] at hK
        have e3 : (op == ([33] : List UInt8)) = false := by simpa using hop
        simp only [zaa, zab, zac, zad, zae, zaf, zag, zah, zai, zaj, zak, zal, zam, zan, zao, zap, zaq, zar, zas, zat, zau, zav, zaw, zax, zay, zaz, zba, zbb, zbc, zbd, zbe, go_b, zbf, zbg, zbh, zbi, zbj, zbk, zbl, zbm, zbd, zbe, zbn, zbo, zbp, zbq, zbr, zbw, zbx, zby, zbz, zca, zcb, zcc, zcd, zce, zcf, zcg, zch, zci, zcj, zck, zcl, zcm, zcn, zco, zcp, zcq, zcr, zcs, zct, zcu, zcv, zcw, zcx, zcy, zcz, zda, zdb, zdc, zdd, zde, zdf, zdg, zdh, zdi, zdj, zdk, zdl, zdm, zdn, zdo, zdp, zdq, zdr, zds, zdt, zdu, zdv, zdw, zdx, zdy, zdz, zea, zeb, zec, zed, zee, zef, zeg, zeh, zei, zej, zek, zel, zem, zen, zeo, zep, zeq, zer, zes, zet, zeu, zev, zew, zex, zey, zez, zfa, zfb, zfc, zfd, zfe, zff, zfg, zfh, zfi, zfj, zfk, zgh, zgi, zgj, zgk, zgl, zgm, zgn, zgo, zgp, zgq, zgr, zgs, zgt, zgu, Nat.reduceShiftRight, Nat.reduceMod, Nat.reduceEqDiff, Nat.reduceAdd, ↓reduceIte, reduceCtorEq, zgv, zgw, hk, hln, h1, rNil_eq, fD_52_0, fD_52_2, Nat.zero_add, ld9, ld50, l0, l2, lit_bang, e3, rUn_eq, u_neg, hres]
        exact hK
  | bin op a b iha ihb =>
    rintro ⟨w1, w2, w3, w4⟩ K hK
    refine goC_body hX (kp12 X) (fn12 X) rfl (by kernel_rfl) ?_
    have hd : (dT (.bin op a b)).toC = .dp [.str (Str.ofL op), .str (Str.ofL []), .sl 1 [[dT a], [dT b]]] 0 := by rw [dT]; rfl
    have l0 : ldC [.str (Str.ofL op), .str (Str.ofL []), .sl 1 [[dT a], [dT b]]] 0 = some (.c (.str (Str.ofL op))) := rfl
    have l2 : ldC [.str (Str.ofL op), .str (Str.ofL []), .sl 1 [[dT a], [dT b]]] 2 = some (.c (.dat 1 [[dT a], [dT b]])) := rfl
    have l3 : ldC [dT a] 0 = some (.c (dT a).toC) := rfl
    have l4 : ldC [dT b] 0 = some (.c (dT b).toC) := rfl
    have hln : ∀ look, len (En X) 50 look (.dat 1 [[dT a], [dT b]]) = some 2 := fun look => len_dat (us50 X) 1 [[dT a], [dT b]]
    have e1 : (op == sDig) = false := by simpa using w1
    have e2 : (op == sNam) = false := by simpa using w2
    rw [hd]
    simp only [zaa, zab, zac, zad, zae, zaf, zag, zah, zai, zaj, zak, zal, zam, zan, zao, zap, zaq, zar, zas, zat, zau, zav, zaw, zax, zay, zaz, zba, zbb, zbc, zbd, zbe, go_b, zbf, zbg, zbh, zbi, zbj, zbk, zbl, zbm, zbd, zbe, zbn, zbo, zbp, zbq, zbr, zbw, zbx, zby, zbz, zca, zcb, zcc, zcd, zce, zcf, zcg, zch, zci, zcj, zck, zcl, zcm, zcn, zco, zcp, zcq, zcr, zcs, zct, zcu, zcv, zcw, zcx, zcy, zcz, zda, zdb, zdc, zdd, zde, zdf, zdg, zdh, zdi, zdj, zdk, zdl, zdm, zdn, zdo, zdp, zdq, zdr, zds, zdt, zdu, zdv, zdw, zdx, zdy, zdz, zea, zeb, zec, zed, zee, zef, zeg, zeh, zei, zej, zek, zel, zem, zen, zeo, zep, zeq, zer, zes, zet, zeu, zev, zew, zex, zey, zez, zfa, zfb, zfc, zfd, zfe, zff, zfg, zfh, zfi, zfj, zfk, zgh, zgi, zgj, zgk, zgl, zgm, zgn, zgo, zgp, zgq, zgr, zgs, zgt, zgu, Nat.reduceShiftRight, Nat.reduceMod, Nat.reduceEqDiff, Nat.reduceAdd, ↓reduceIte, reduceCtorEq, zgv, zgw, rNil_eq, fD_52_0, fD_52_2, Nat.zero_add, ld9, ld50, ld37, l0, l2, l3, lit_dig, lit_nam, e1, e2, ix50_0]
    refine go_call _ _ _ _ _ _ (ws := [.c (dT a).toC, .c d.toC]) rfl (by simp only [zca, zcb, zcc, zcd, zce, zcf, zcg, zch, zci, zcj, zck, zcl, zcm, zcn, zco, zcp, zcq, zcr, zcs, zct, zcu, zcv, zcw, zcx, zcy, zcz, zda, zdb, zdc, zdd, zde, zdf, zdg, zdh, zdi, zdj, zdk, zdl, zdm, zdn, zdo, zdp, zdq, zdr, zds, zfj, zfk, zgl, zgm, zgn, zgo, zgp, zgq, zgr, zgs, zgt, zgu, Nat.reduceShiftRight, Nat.reduceMod, Nat.reduceEqDiff, Nat.reduceAdd, ↓reduceIte, reduceCtorEq, zgv, zgw, argsOf_cons, argsOf_nil]) ?_
    refine iha w3 _ ?_
    rw [toV_pvP]
    rw [evF] at hK
    cases hk : (evF vs a).2 with
    | false =>
      rw [if_pos hk] at hK
      simp only [zaa, zab, zac, zad, zae, zaf, zag, zah, zai, zaj, zak, zal, zam, zan, zao, zap, zaq, zar, zas, zat, zau, zav, zaw, zax, zay, zaz, zba, zbb, zbc, zbd, zbe, go_b, zbf, zbg, zbh, zbi, zbj, zbk, zbl, zbm, zbd, zbe, zbn, zbo, zbp, zbq, zbr, zbw, zbx, zby, zbz, zca, zcb, zcc, zcd, zce, zcf, zcg, zch, zci, zcj, zck, zcl, zcm, zcn, zco, zcp, zcq, zcr, zcs, zct, zcu, zcv, zcw, zcx, zcy, zcz, zda, zdb, zdc, zdd, zde, zdf, zdg, zdh, zdi, zdj, zdk, zdl, zdm, zdn, zdo, zdp, zdq, zdr, zds, zdt, zdu, zdv, zdw, zdx, zdy, zdz, zea, zeb, zec, zed, zee, zef, zeg, zeh, zei, zej, zek, zel, zem, zen, zeo, zep, zeq, zer, zes, zet, zeu, zev, zew, zex, zey, zez, zfa, zfb, zfc, zfd, zfe, zff, zfg, zfh, zfi, zfj, zfk, zgh, zgi, zgj, zgk, zgl, zgm, zgn, zgo, zgp, zgq, zgr, zgs, zgt, zgu, Nat.reduceShiftRight, Nat.reduceMod, Nat.reduceEqDiff, Nat.reduceAdd, ↓reduceIte, reduceCtorEq, zgv, zgw, hk, hres]
      exact hK
    | true =>
      rw [if_neg (by rw [hk]; simp)] at hK
      have h1 : (Int.ofNat 2 = 1) = False := eq_false (by decide)
      simp only [zaa, zab, zac, zad, zae, zaf, zag, zah, zai, zaj, zak, zal, zam, zan, zao, zap, zaq, zar, zas, zat, zau, zav, zaw, zax, zay, zaz, zba, zbb, zbc, zbd, zbe, go_b, zbf, zbg, zbh, zbi, zbj, zbk, zbl, zbm, zbd, zbe, zbn, zbo, zbp, zbq, zbr, zbw, zbx, zby, zbz, zca, zcb, zcc, zcd, zce, zcf, zcg, zch, zci, zcj, zck, zcl, zcm, zcn, zco, zcp, zcq, zcr, zcs, zct, zcu, zcv, zcw, zcx, zcy, zcz, zda, zdb, zdc, zdd, zde, zdf, zdg, zdh, zdi, zdj, zdk, zdl, zdm, zdn, zdo, zdp, zdq, zdr, zds, zdt, zdu, zdv, zdw, zdx, zdy, zdz, zea, zeb, zec, zed, zee, zef, zeg, zeh, zei, zej, zek, zel, zem, zen, zeo, zep, zeq, zer, zes, zet, zeu, zev, zew, zex, zey, zez, zfa, zfb, zfc, zfd, zfe, zff, zfg, zfh, zfi, zfj, zfk, zgh, zgi, zgj, zgk, zgl, zgm, zgn, zgo, zgp, zgq, zgr, zgs, zgt, zgu, Nat.reduceShiftRight, Nat.reduceMod, Nat.reduceEqDiff, Nat.reduceAdd, ↓reduceIte, reduceCtorEq, zgv, zgw, hk, hln, h1, rNil_eq, fD_52_0, fD_52_2, Nat.zero_add, ld9, ld50, ld37, l0, l2, l4, ix50_1]
      refine go_call _ _ _ _ _ _ (ws := [.c (dT b).toC, .c d.toC]) rfl (by simp only [zca, zcb, zcc, zcd, zce, zcf, zcg, zch, zci, zcj, zck, zcl, zcm, zcn, zco, zcp, zcq, zcr, zcs, zct, zcu, zcv, zcw, zcx, zcy, zcz, zda, zdb, zdc, zdd, zde, zdf, zdg, zdh, zdi, zdj, zdk, zdl, zdm, zdn, zdo, zdp, zdq, zdr, zds, zfj, zfk, zgl, zgm, zgn, zgo, zgp, zgq, zgr, zgs, zgt, zgu, Nat.reduceShiftRight, Nat.reduceMod, Nat.reduceEqDiff, Nat.reduceAdd, ↓reduceIte, reduceCtorEq, zgv, zgw, argsOf_cons, argsOf_nil]) ?_
      refine ihb w4 _ ?_
      rw [toV_pvP]
      cases hj : (evF vs b).2 with
      | false =>
        rw [if_pos hj] at hK
        simp only [zaa, zab, zac, zad, zae, zaf, zag, zah, zai, zaj, zak, zal, zam, zan, zao, zap, zaq, zar, zas, zat, zau, zav, zaw, zax, zay, zaz, zba, zbb, zbc, zbd, zbe, go_b, zbf, zbg, zbh, zbi, zbj, zbk, zbl, zbm, zbd, zbe, zbn, zbo, zbp, zbq, zbr, zbw, zbx, zby, zbz, zca, zcb, zcc, zcd, zce, zcf, zcg, zch, zci, zcj, zck, zcl, zcm, zcn, zco, zcp, zcq, zcr, zcs, zct, zcu, zcv, zcw, zcx, zcy, zcz, zda, zdb, zdc, zdd, zde, zdf, zdg, zdh, zdi, zdj, zdk, zdl, zdm, zdn, zdo, zdp, zdq, zdr, zds, zdt, zdu, zdv, zdw, zdx, zdy, zdz, zea, zeb, zec, zed, zee, zef, zeg, zeh, zei, zej, zek, zel, zem, zen, zeo, zep, zeq, zer, zes, zet, zeu, zev, zew, zex, zey, zez, zfa, zfb, zfc, zfd, zfe, zff, zfg, zfh, zfi, zfj, zfk, zgh, zgi, zgj, zgk, zgl, zgm, zgn, zgo, zgp, zgq, zgr, zgs, zgt, zgu, Nat.reduceShiftRight, Nat.reduceMod, Nat.reduceEqDiff, Nat.reduceAdd, ↓reduceIte, reduceCtorEq, zgv, zgw, hj, hres]
        exact hK
      | true =>
        rw [if_neg (by rw [hj]; simp)] at hK
        simp only [zaa, zab, zac, zad, zae, zaf, zag, zah, zai, zaj, zak, zal, zam, zan, zao, zap, zaq, zar, zas, zat, zau, zav, zaw, zax, zay, zaz, zba, zbb, zbc, zbd, zbe, go_b, zbf, zbg, zbh, zbi, zbj, zbk, zbl, zbm, zbd, zbe, zbn, zbo, zbp, zbq, zbr, zbw, zbx, zby, zbz, zca, zcb, zcc, zcd, zce, zcf, zcg, zch, zci, zcj, zck, zcl, zcm, zcn, zco, zcp, zcq, zcr, zcs, zct, zcu, zcv, zcw, zcx, zcy, zcz, zda, zdb, zdc, zdd, zde, zdf, zdg, zdh, zdi, zdj, zdk, zdl, zdm, zdn, zdo, zdp, zdq, zdr, zds, zdt, zdu, zdv, zdw, zdx, zdy, zdz, zea, zeb, zec, zed, zee, zef, zeg, zeh, zei, zej, zek, zel, zem, zen, zeo, zep, zeq, zer, zes, zet, zeu, zev, zew, zex, zey, zez, zfa, zfb, zfc, zfd, zfe, zff, zfg, zfh, zfi, zfj, zfk, zgh, zgi, zgj, zgk, zgl, zgm, zgn, zgo, zgp, zgq, zgr, zgs, zgt, zgu, Nat.reduceShiftRight, Nat.reduceMod, Nat.reduceEqDiff, Nat.reduceAdd, ↓reduceIte, reduceCtorEq, zgv, zgw, hj, rNil_eq, fD_52_0, Nat.zero_add, ld9, l0]
        refine go_call _ _ _ _ _ _ (ws := [.c (.str (Str.ofL op)), .c (.int .i64 (evF vs a).1), .c (.int .i64 (evF vs b).1)]) rfl (by simp only [zca, zcb, zcc, zcd, zce, zcf, zcg, zch, zci, zcj, zck, zcl, zcm, zcn, zco, zcp, zcq, zcr, zcs, zct, zcu, zcv, zcw, zcx, zcy, zcz, zda, zdb, zdc, zdd, zde, zdf, zdg, zdh, zdi, zdj, zdk, zdl, zdm, zdn, zdo, zdp, zdq, zdr, zds, zfj, zfk, zgl, zgm, zgn, zgo, zgp, zgq, zgr, zgs, zgt, zgu, Nat.reduceShiftRight, Nat.reduceMod, Nat.reduceEqDiff, Nat.reduceAdd, ↓reduceIte, reduceCtorEq, zgv, zgw, argsOf_cons, argsOf_nil]) ?_
        refine goC_of (callR_two h22 _ _ _ _) ?_
        simp only [zaa, zab, zac, zad, zae, zaf, zag, zah, zai, zaj, zak, zal, zam, zan, zao, zap, zaq, zar, zas, zat, zau, zav, zaw, zax, zay, zaz, zba, zbb, zbc, zbd, zbe, go_b, zbf, zbg, zbh, zbi, zbj, zbk, zbl, zbm, zbd, zbe, zbn, zbo, zbp, zbq, zbr, zbw, zbx, zby, zbz, zca, zcb, zcc, zcd, zce, zcf, zcg, zch, zci, zcj, zck, zcl, zcm, zcn, zco, zcp, zcq, zcr, zcs, zct, zcu, zcv, zcw, zcx, zcy, zcz, zda, zdb, zdc, zdd, zde, zdf, zdg, zdh, zdi, zdj, zdk, zdl, zdm, zdn, zdo, zdp, zdq, zdr, zds, zdt, zdu, zdv, zdw, zdx, zdy, zdz, zea, zeb, zec, zed, zee, zef, zeg, zeh, zei, zej, zek, zel, zem, zen, zeo, zep, zeq, zer, zes, zet, zeu, zev, zew, zex, zey, zez, zfa, zfb, zfc, zfd, zfe, zff, zfg, zfh, zfi, zfj, zfk, zgh, zgi, zgj, zgk, zgl, zgm, zgn, zgo, zgp, zgq, zgr, zgs, zgt, zgu, Nat.reduceShiftRight, Nat.reduceMod, Nat.reduceEqDiff, Nat.reduceAdd, ↓reduceIte, reduceCtorEq, zgv, zgw, toV_pvP, hres]
        exact hK
end Ar
