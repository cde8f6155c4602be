import Derived.Test.YtaapmoclinjefaaDoorArS
namespace Ar
open Go Go.Proofs Ev Go.Lib Nu
set_option linter.unusedVariables false
set_option linter.unusedSimpArgs false
set_option linter.unnecessarySimpa false
set_option maxRecDepth 100000
/-! trees of texts -/
def WfK (k : Kd) : Prop := match k with
  | .PL t => WfT t
  | .SL t => WfT t
  | _ => True
theorem tk_op {sg : List (List UInt8)} (hs : ∀ op ∈ sg, op ≠ sDig ∧ op ≠ sNam) {l : List UInt8} (h : (tk sg l).1 ≠ []) : (tk sg l).1 ≠ sDig ∧ (tk sg l).1 ≠ sNam := by
  rcases takeF_mem sg (dropBl l) with h' | h'
  · exact absurd h' h
  · exact hs _ h'
theorem Ps.wf {k : Kd} {l : List UInt8} {b : Bool} {t : Tr} {l' : List UInt8} {b' : Bool} (h : Ps k l b t l' b') : l.length ≤ 1000 → WfK k → WfT t := by
  induction h with
  | @sign l _ _ _ _ h1 _ _ ih => intro hl _; have hq := tk_op (sg := sgU) (by decide) h1; have := tk_lt h1; exact ⟨hq.1, hq.2, ih (by omega) trivial⟩
  | @par l _ _ _ _ h1 _ ih => intro hl _; have := tk_le2 sgU l; exact ih (by omega) trivial
  | @dig l _ _ _ => intro hl _; have := tk_le2 sgU l; have := tw_le digN (tk sgU l).2; show (tw digN (tk sgU l).2).length ≤ _; omega
  | nam => intro _ _; trivial
  | namx => intro _ _; trivial
  | prod h1 _ ih1 ih2 => intro hl _; have := h1.le; exact ih2 (by omega) (ih1 hl trivial)
  | pbad => intro _ h; exact h
  | pend => intro _ h; exact h
  | pmore h1 h2 _ ih1 ih2 => intro hl hw; have hq := tk_op (sg := sgP) (by decide) h1; have := tk_lt h1; have := h2.le; exact ih2 (by omega) ⟨hq.1, hq.2, hw, ih1 (by omega) trivial⟩
  | sum h1 _ ih1 ih2 => intro hl _; have := h1.le; exact ih2 (by omega) (ih1 hl trivial)
  | sbad => intro _ h; exact h
  | send => intro _ h; exact h
  | smore h1 h2 _ ih1 ih2 => intro hl hw; have hq := tk_op (sg := sgS) (by decide) h1; have := tk_lt h1; have := h2.le; exact ih2 (by omega) ⟨hq.1, hq.2, hw, ih1 (by omega) trivial⟩
  | expr h1 _ ih => intro hl _; exact ih hl trivial
  | cmp h1 h2 _ ih1 ih2 => intro hl _; have hq := tk_op (sg := sgX) (by decide) h2; have := h1.le; have := tk_lt h2; exact ⟨hq.1, hq.2, ih1 hl trivial, ih2 (by omega) trivial⟩
/-! a reckoning's number, or an error -/
def evalF (vs : List (List UInt8 × List UInt8)) (t : Tr) (l' : List UInt8) (b' : Bool) : Int × Int :=
  if b' = true ∨ dropBl l' ≠ [] then (0, 2) else if (evF vs t).2 = true then ((evF vs t).1, 0) else (0, 6)
def pvE (p : Int × Int) : PV := .tup [.c (.int .i64 p.1), .c (.int .i64 p.2)]
theorem bu36_0 (X : T Ext) (x : C) : build (En X) 36 [(0, .c x)] = some (.agg [x, .bool false]) := by kernel_rfl
theorem Eval6 (X : T Ext) (hX : (En X).ext.get 6 = none) (hX2 : (En X).ext.get 12 = none) (h10 : (En X).ext.get 10 = some (.me (ofM (RK .X 901)) [])) (h11 : (En X).ext.get 11 = some (.me (ofM RSkip) []))
    (h15 : (En X).ext.get 15 = some (.fn (ofG RNum) gsE)) (h20 : (En X).ext.get 20 = some (.fn (ofG RVal) gsE)) (h21 : (En X).ext.get 21 = some (.fn (ofG RBit) [])) (h22 : (En X).ext.get 22 = some (.fn (ofG RTwo) []))
    {l : List UInt8} (h900 : l.length ≤ 900) {t : Tr} {l' : List UInt8} {b' : Bool} (hp : Ps .X l false t l' b') {d : D} {vs : List (List UInt8 × List UInt8)} (hv : IsV d vs) (ho : okVs vs) (s : St) (hg : rowsAre s.h.get gsE = true) (hgn : ∀ p ∈ gsE, p.1 < s.nx)
    (K : V → St → Prop) (hK : ∀ s', K (pvE (evalF vs t l' b')).toV s') : goC (En X) 6 [.c (.str (Str.ofL l)), .c d.toC] s K := by
  refine goC_body hX (kp6 X) (fn6 X) rfl (by kernel_rfl) ?_
  have hres : Tryd.f6.results.toList = [.tmp 4, .tmp 5] := rfl
  have r1 := LRow.new s (cellsD (prD l false))
  have n1 : (s.new (.row (mkRow (cellsD (prD l false))))).nx = s.nx + 1 := St.new_nx _ _
  have f1 : ∀ y, y < s.nx → (s.new (.row (mkRow (cellsD (prD l false))))).h.get y = s.h.get y := fun y hy => new_old s _ hy
  have hrow : Blk.row (mkRow [C.str (Str.ofL l), .bool false]) = .row (mkRow (cellsD (prD l false))) := rfl
  simp only [zaa, zab, zac, zad, zae, zaf, zag, zah, zai, zaj, zak, zal, zam, zan, zao, zap, zaq, zar, zas, zat, zau, zav, zaw, zax, zay, zaz, zba, zbb, zbc, zbd, zbe, go_b, zbf, zbg, zbh, zbi, zbj, zbk, zbl, zbm, zbd, zbe, zbn, zbo, zbp, zbq, zbr, zbw, zbx, zby, zbz, zca, zcb, zcc, zcd, zce, zcf, zcg, zch, zci, zcj, zck, zcl, zcm, zcn, zco, zcp, zcq, zcr, zcs, zct, zcu, zcv, zcw, zcx, zcy, zcz, zda, zdb, zdc, zdd, zde, zdf, zdg, zdh, zdi, zdj, zdk, zdl, zdm, zdn, zdo, zdp, zdq, zdr, zds, zdt, zdu, zdv, zdw, zdx, zdy, zdz, zea, zeb, zec, zed, zee, zef, zeg, zeh, zei, zej, zek, zel, zem, zen, zeo, zep, zeq, zer, zes, zet, zeu, zev, zew, zex, zey, zez, zfa, zfb, zfc, zfd, zfe, zff, zfg, zfh, zfi, zfj, zfk, zgh, zgi, zgj, zgk, zgl, zgm, zgn, zgo, zgp, zgq, zgr, zgs, zgt, zgu, Nat.reduceShiftRight, Nat.reduceMod, Nat.reduceEqDiff, Nat.reduceAdd, ↓reduceIte, reduceCtorEq, zgv, zgw, partsOf_cons, partsOf_nil, rBuild_eq', bu36_0, hrow]
  generalize s.new (.row (mkRow (cellsD (prD l false)))) = s1 at r1 n1 f1 ⊢
  obtain ⟨s2, hc2, r2, n2, f2⟩ := callR_K h10 (by omega) hp r1
  refine go_call _ _ _ _ _ _ (ws := [.c (.ptr s.nx 0)]) rfl (by simp only [zca, zcb, zcc, zcd, zce, zcf, zcg, zch, zci, zcj, zck, zcl, zcm, zcn, zco, zcp, zcq, zcr, zcs, zct, zcu, zcv, zcw, zcx, zcy, zcz, zda, zdb, zdc, zdd, zde, zdf, zdg, zdh, zdi, zdj, zdk, zdl, zdm, zdn, zdo, zdp, zdq, zdr, zds, zfj, zfk, zgl, zgm, zgn, zgo, zgp, zgq, zgr, zgs, zgt, zgu, Nat.reduceShiftRight, Nat.reduceMod, Nat.reduceEqDiff, Nat.reduceAdd, ↓reduceIte, reduceCtorEq, zgv, zgw, argsOf_cons, argsOf_nil]) ?_
  refine goC_of hc2 ?_
  obtain ⟨s3, hc3, r3, n3, f3⟩ := callR_skip h11 r2
  simp only [zaa, zab, zac, zad, zae, zaf, zag, zah, zai, zaj, zak, zal, zam, zan, zao, zap, zaq, zar, zas, zat, zau, zav, zaw, zax, zay, zaz, zba, zbb, zbc, zbd, zbe, go_b, zbf, zbg, zbh, zbi, zbj, zbk, zbl, zbm, zbd, zbe, zbn, zbo, zbp, zbq, zbr, zbw, zbx, zby, zbz, zca, zcb, zcc, zcd, zce, zcf, zcg, zch, zci, zcj, zck, zcl, zcm, zcn, zco, zcp, zcq, zcr, zcs, zct, zcu, zcv, zcw, zcx, zcy, zcz, zda, zdb, zdc, zdd, zde, zdf, zdg, zdh, zdi, zdj, zdk, zdl, zdm, zdn, zdo, zdp, zdq, zdr, zds, zdt, zdu, zdv, zdw, zdx, zdy, zdz, zea, zeb, zec, zed, zee, zef, zeg, zeh, zei, zej, zek, zel, zem, zen, zeo, zep, zeq, zer, zes, zet, zeu, zev, zew, zex, zey, zez, zfa, zfb, zfc, zfd, zfe, zff, zfg, zfh, zfi, zfj, zfk, zgh, zgi, zgj, zgk, zgl, zgm, zgn, zgo, zgp, zgq, zgr, zgs, zgt, zgu, Nat.reduceShiftRight, Nat.reduceMod, Nat.reduceEqDiff, Nat.reduceAdd, ↓reduceIte, reduceCtorEq, zgv, zgw]
  refine go_call _ _ _ _ _ _ (ws := [.c (.ptr s.nx 0)]) rfl (by simp only [zca, zcb, zcc, zcd, zce, zcf, zcg, zch, zci, zcj, zck, zcl, zcm, zcn, zco, zcp, zcq, zcr, zcs, zct, zcu, zcv, zcw, zcx, zcy, zcz, zda, zdb, zdc, zdd, zde, zdf, zdg, zdh, zdi, zdj, zdk, zdl, zdm, zdn, zdo, zdp, zdq, zdr, zds, zfj, zfk, zgl, zgm, zgn, zgo, zgp, zgq, zgr, zgs, zgt, zgu, Nat.reduceShiftRight, Nat.reduceMod, Nat.reduceEqDiff, Nat.reduceAdd, ↓reduceIte, reduceCtorEq, zgv, zgw, argsOf_cons, argsOf_nil]) ?_
  refine goC_of hc3 ?_
  have c0 := pr0 r3
  have c1 := pr1 r3
  have hg3 : rowsAre s3.h.get gsE = true := rows_congr (fun p hp => by have := hgn p hp; rw [f3 _ (by omega), f2 _ (by omega), f1 _ this]) hg
  cases hb : b' with
  | true =>
    subst hb
    rw [show evalF vs t l' true = (0, 2) by unfold evalF; rw [if_pos (.inl rfl)]] at hK
    simp only [zaa, zab, zac, zad, zae, zaf, zag, zah, zai, zaj, zak, zal, zam, zan, zao, zap, zaq, zar, zas, zat, zau, zav, zaw, zax, zay, zaz, zba, zbb, zbc, zbd, zbe, go_b, zbf, zbg, zbh, zbi, zbj, zbk, zbl, zbm, zbd, zbe, zbn, zbo, zbp, zbq, zbr, zbw, zbx, zby, zbz, zca, zcb, zcc, zcd, zce, zcf, zcg, zch, zci, zcj, zck, zcl, zcm, zcn, zco, zcp, zcq, zcr, zcs, zct, zcu, zcv, zcw, zcx, zcy, zcz, zda, zdb, zdc, zdd, zde, zdf, zdg, zdh, zdi, zdj, zdk, zdl, zdm, zdn, zdo, zdp, zdq, zdr, zds, zdt, zdu, zdv, zdw, zdx, zdy, zdz, zea, zeb, zec, zed, zee, zef, zeg, zeh, zei, zej, zek, zel, zem, zen, zeo, zep, zeq, zer, zes, zet, zeu, zev, zew, zex, zey, zez, zfa, zfb, zfc, zfd, zfe, zff, zfg, zfh, zfi, zfj, zfk, zgh, zgi, zgj, zgk, zgl, zgm, zgn, zgo, zgp, zgq, zgr, zgs, zgt, zgu, Nat.reduceShiftRight, Nat.reduceMod, Nat.reduceEqDiff, Nat.reduceAdd, ↓reduceIte, reduceCtorEq, zgv, zgw, rNil_eq, fA_36_0, fA_36_1, ldh4, ldh9, c1, hres]
    exact hK _
  | false =>
    subst hb
    by_cases hz : dropBl l' = []
    · have e1 : (dropBl l' == ([] : List UInt8)) = true := by rw [hz]; rfl
      have hcond : ¬ (false = true ∨ dropBl l' ≠ []) := fun h => h.elim (by simp) (fun h => h hz)
      simp only [zaa, zab, zac, zad, zae, zaf, zag, zah, zai, zaj, zak, zal, zam, zan, zao, zap, zaq, zar, zas, zat, zau, zav, zaw, zax, zay, zaz, zba, zbb, zbc, zbd, zbe, go_b, zbf, zbg, zbh, zbi, zbj, zbk, zbl, zbm, zbd, zbe, zbn, zbo, zbp, zbq, zbr, zbw, zbx, zby, zbz, zca, zcb, zcc, zcd, zce, zcf, zcg, zch, zci, zcj, zck, zcl, zcm, zcn, zco, zcp, zcq, zcr, zcs, zct, zcu, zcv, zcw, zcx, zcy, zcz, zda, zdb, zdc, zdd, zde, zdf, zdg, zdh, zdi, zdj, zdk, zdl, zdm, zdn, zdo, zdp, zdq, zdr, zds, zdt, zdu, zdv, zdw, zdx, zdy, zdz, zea, zeb, zec, zed, zee, zef, zeg, zeh, zei, zej, zek, zel, zem, zen, zeo, zep, zeq, zer, zes, zet, zeu, zev, zew, zex, zey, zez, zfa, zfb, zfc, zfd, zfe, zff, zfg, zfh, zfi, zfj, zfk, zgh, zgi, zgj, zgk, zgl, zgm, zgn, zgo, zgp, zgq, zgr, zgs, zgt, zgu, Nat.reduceShiftRight, Nat.reduceMod, Nat.reduceEqDiff, Nat.reduceAdd, ↓reduceIte, reduceCtorEq, zgv, zgw, rNil_eq, fA_36_0, fA_36_1, ldh4, ldh9, c0, c1, lit_0, e1]
      refine go_call _ _ _ _ _ _ (ws := [.c (dT t).toC, .c d.toC]) rfl (by simp only [zca, zcb, zcc, zcd, zce, zcf, zcg, zch, zci, zcj, zck, zcl, zcm, zcn, zco, zcp, zcq, zcr, zcs, zct, zcu, zcv, zcw, zcx, zcy, zcz, zda, zdb, zdc, zdd, zde, zdf, zdg, zdh, zdi, zdj, zdk, zdl, zdm, zdn, zdo, zdp, zdq, zdr, zds, zfj, zfk, zgl, zgm, zgn, zgo, zgp, zgq, zgr, zgs, zgt, zgu, Nat.reduceShiftRight, Nat.reduceMod, Nat.reduceEqDiff, Nat.reduceAdd, ↓reduceIte, reduceCtorEq, zgv, zgw, argsOf_cons, argsOf_nil]) ?_
      refine eval12 X hX2 h15 h20 h21 h22 hv ho s3 hg3 t (hp.wf (by omega) trivial) _ ?_
      rw [toV_pvP]
      unfold evalF at hK
      rw [if_neg hcond] at hK
      cases hk : (evF vs t).2 with
      | true =>
        rw [if_pos hk] at hK
        simp only [zaa, zab, zac, zad, zae, zaf, zag, zah, zai, zaj, zak, zal, zam, zan, zao, zap, zaq, zar, zas, zat, zau, zav, zaw, zax, zay, zaz, zba, zbb, zbc, zbd, zbe, go_b, zbf, zbg, zbh, zbi, zbj, zbk, zbl, zbm, zbd, zbe, zbn, zbo, zbp, zbq, zbr, zbw, zbx, zby, zbz, zca, zcb, zcc, zcd, zce, zcf, zcg, zch, zci, zcj, zck, zcl, zcm, zcn, zco, zcp, zcq, zcr, zcs, zct, zcu, zcv, zcw, zcx, zcy, zcz, zda, zdb, zdc, zdd, zde, zdf, zdg, zdh, zdi, zdj, zdk, zdl, zdm, zdn, zdo, zdp, zdq, zdr, zds, zdt, zdu, zdv, zdw, zdx, zdy, zdz, zea, zeb, zec, zed, zee, zef, zeg, zeh, zei, zej, zek, zel, zem, zen, zeo, zep, zeq, zer, zes, zet, zeu, zev, zew, zex, zey, zez, zfa, zfb, zfc, zfd, zfe, zff, zfg, zfh, zfi, zfj, zfk, zgh, zgi, zgj, zgk, zgl, zgm, zgn, zgo, zgp, zgq, zgr, zgs, zgt, zgu, Nat.reduceShiftRight, Nat.reduceMod, Nat.reduceEqDiff, Nat.reduceAdd, ↓reduceIte, reduceCtorEq, zgv, zgw, hk, hres]
        exact hK _
      | false =>
        rw [if_neg (by rw [hk]; simp)] at hK
        simp only [zaa, zab, zac, zad, zae, zaf, zag, zah, zai, zaj, zak, zal, zam, zan, zao, zap, zaq, zar, zas, zat, zau, zav, zaw, zax, zay, zaz, zba, zbb, zbc, zbd, zbe, go_b, zbf, zbg, zbh, zbi, zbj, zbk, zbl, zbm, zbd, zbe, zbn, zbo, zbp, zbq, zbr, zbw, zbx, zby, zbz, zca, zcb, zcc, zcd, zce, zcf, zcg, zch, zci, zcj, zck, zcl, zcm, zcn, zco, zcp, zcq, zcr, zcs, zct, zcu, zcv, zcw, zcx, zcy, zcz, zda, zdb, zdc, zdd, zde, zdf, zdg, zdh, zdi, zdj, zdk, zdl, zdm, zdn, zdo, zdp, zdq, zdr, zds, zdt, zdu, zdv, zdw, zdx, zdy, zdz, zea, zeb, zec, zed, zee, zef, zeg, zeh, zei, zej, zek, zel, zem, zen, zeo, zep, zeq, zer, zes, zet, zeu, zev, zew, zex, zey, zez, zfa, zfb, zfc, zfd, zfe, zff, zfg, zfh, zfi, zfj, zfk, zgh, zgi, zgj, zgk, zgl, zgm, zgn, zgo, zgp, zgq, zgr, zgs, zgt, zgu, Nat.reduceShiftRight, Nat.reduceMod, Nat.reduceEqDiff, Nat.reduceAdd, ↓reduceIte, reduceCtorEq, zgv, zgw, hk, hres]
        exact hK _
    · have e1 : (dropBl l' == ([] : List UInt8)) = false := by simpa using hz
      rw [show evalF vs t l' false = (0, 2) by unfold evalF; rw [if_pos (.inr hz)]] at hK
      simp only [zaa, zab, zac, zad, zae, zaf, zag, zah, zai, zaj, zak, zal, zam, zan, zao, zap, zaq, zar, zas, zat, zau, zav, zaw, zax, zay, zaz, zba, zbb, zbc, zbd, zbe, go_b, zbf, zbg, zbh, zbi, zbj, zbk, zbl, zbm, zbd, zbe, zbn, zbo, zbp, zbq, zbr, zbw, zbx, zby, zbz, zca, zcb, zcc, zcd, zce, zcf, zcg, zch, zci, zcj, zck, zcl, zcm, zcn, zco, zcp, zcq, zcr, zcs, zct, zcu, zcv, zcw, zcx, zcy, zcz, zda, zdb, zdc, zdd, zde, zdf, zdg, zdh, zdi, zdj, zdk, zdl, zdm, zdn, zdo, zdp, zdq, zdr, zds, zdt, zdu, zdv, zdw, zdx, zdy, zdz, zea, zeb, zec, zed, zee, zef, zeg, zeh, zei, zej, zek, zel, zem, zen, zeo, zep, zeq, zer, zes, zet, zeu, zev, zew, zex, zey, zez, zfa, zfb, zfc, zfd, zfe, zff, zfg, zfh, zfi, zfj, zfk, zgh, zgi, zgj, zgk, zgl, zgm, zgn, zgo, zgp, zgq, zgr, zgs, zgt, zgu, Nat.reduceShiftRight, Nat.reduceMod, Nat.reduceEqDiff, Nat.reduceAdd, ↓reduceIte, reduceCtorEq, zgv, zgw, rNil_eq, fA_36_0, fA_36_1, ldh4, ldh9, c0, c1, lit_0, e1, hres]
      exact hK _
def REv (ps : List PW) (v : PV) : Prop := ∃ l d vs t l' b', ps = [.c (.str (Str.ofL l)), .c d] ∧ l.length ≤ 900 ∧ Ps .X l false t l' b' ∧ IsV d vs ∧ okVs vs ∧ v = pvE (evalF vs t l' b')
theorem rev_u {l : List UInt8} {d : D} {vs : List (List UInt8 × List UInt8)} {t : Tr} {l' : List UInt8} {b' : Bool} (hp : Ps .X l false t l' b') (hv : IsV d vs) {v : PV} (h : REv [.c (.str (Str.ofL l)), .c d] v) : v = pvE (evalF vs t l' b') := by
  obtain ⟨m, d2, vs2, t2, m', c', h1, _, hp2, hv2, _, rfl⟩ := h
  simp only [List.cons.injEq, PW.c.injEq, D.str.injEq, and_true] at h1
  obtain ⟨h1, rfl⟩ := h1
  obtain rfl := ofL_inj h1
  obtain ⟨rfl, rfl, rfl⟩ := hp.det hp2
  rw [isV_u hv hv2]
noncomputable def e6 : Nat × Ext := (6, .fn (ofG REv) gsE)
noncomputable def exts6 : List (Nat × Ext) := [e10, e11, e4, e20, e21, e22]
theorem oks6 : Oks exts6 := ok1 c10 (ok1 c11 (ok1 c4 (ok1 c20 (ok1 c21 (ok1 c22 ok0)))))
theorem c6 : Ok e6 := fn_of_go_g (exts := exts6) oks6 rfl gsE gsE_ok _ (by
  rintro ps pv ⟨l, d, vs, t, l', b', rfl, hl, hp, hv, ho, rfl⟩
  exact Eval6 _ rfl rfl rfl rfl rfl rfl rfl rfl hl hp hv ho _ (by kernel_rfl) (by decide) _ fun s' => ⟨[], rfl⟩)
end Ar
