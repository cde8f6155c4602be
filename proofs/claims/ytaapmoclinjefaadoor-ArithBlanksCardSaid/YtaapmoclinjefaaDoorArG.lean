import Derived.Test.YtaapmoclinjefaaDoorArF
namespace Ar
open Go Go.Proofs Ev Go.Lib Nu
set_option linter.unusedVariables false
set_option linter.unusedSimpArgs false
set_option linter.unnecessarySimpa false
set_option maxRecDepth 100000
/-! prefixes -/
theorem prefG41 (X : T Ext) (hX : (En X).ext.get 41 = none) (l p : List UInt8) (s : St) (K : V → St → Prop) (hK : ∀ s', K (.w (.c (.bool (pre l p)))) s') :
    goC (En X) 41 [.c (.str (Str.ofL l)), .c (.str (Str.ofL p))] s K := by
  refine goC_body hX (kp41 X) (fn41 X) rfl (by kernel_rfl) ?_
  have hres : Tryd.f41.results.toList = [.tmp 4] := rfl
  by_cases hle : p.length ≤ l.length
  · have hc : (Int.ofNat p.length ≤ Int.ofNat l.length) = True := eq_true (Int.ofNat_le.2 hle)
    have t1 : ∀ look, slice (En X) 9 (.str (Str.ofL l)) none (some (.int .i64 (Int.ofNat p.length))) none look = some (.str (Str.ofL (l.take p.length))) := fun look => slice_stake (ustr9 X) look l hle
    have hb : (l.take p.length == p) = pre l p := rfl
    simp only [zaa, zab, zac, zad, zae, zaf, zag, zah, zai, zaj, zak, zal, zam, zan, zao, zap, zaq, zar, zas, zat, zau, zav, zaw, zax, zay, zaz, zba, zbb, zbc, zbd, zbe, go_b, zbf, zbg, zbh, zbi, zbj, zbk, zbl, zbm, zbd, zbe, zbn, zbo, zbp, zbq, zbr, zbw, zbx, zby, zbz, zca, zcb, zcc, zcd, zce, zcf, zcg, zch, zci, zcj, zck, zcl, zcm, zcn, zco, zcp, zcq, zcr, zcs, zct, zcu, zcv, zcw, zcx, zcy, zcz, zda, zdb, zdc, zdd, zde, zdf, zdg, zdh, zdi, zdj, zdk, zdl, zdm, zdn, zdo, zdp, zdq, zdr, zds, zdt, zdu, zdv, zdw, zdx, zdy, zdz, zea, zeb, zec, zed, zee, zef, zeg, zeh, zei, zej, zek, zel, zem, zen, zeo, zep, zeq, zer, zes, zet, zeu, zev, zew, zex, zey, zez, zfa, zfb, zfc, zfd, zfe, zff, zfg, zfh, zfi, zfj, zfk, zgh, zgi, zgj, zgk, zgl, zgm, zgn, zgo, zgp, zgq, zgr, zgs, zgt, zgu, Nat.reduceShiftRight, Nat.reduceMod, Nat.reduceEqDiff, Nat.reduceAdd, ↓reduceIte, reduceCtorEq, zgv, zgw, len_str, hc, rSlice_hi, t1, hb, hres]
    exact hK _
  · have hc : (Int.ofNat p.length ≤ Int.ofNat l.length) = False := eq_false (fun h => hle (Int.ofNat_le.1 h))
    have hb : pre l p = false := by
      unfold pre
      cases h : (l.take p.length == p) with
      | false => rfl
      | true => have := congrArg List.length (eq_of_beq h); rw [List.length_take] at this; omega
    rw [hb] at hK
    simp only [zaa, zab, zac, zad, zae, zaf, zag, zah, zai, zaj, zak, zal, zam, zan, zao, zap, zaq, zar, zas, zat, zau, zav, zaw, zax, zay, zaz, zba, zbb, zbc, zbd, zbe, go_b, zbf, zbg, zbh, zbi, zbj, zbk, zbl, zbm, zbd, zbe, zbn, zbo, zbp, zbq, zbr, zbw, zbx, zby, zbz, zca, zcb, zcc, zcd, zce, zcf, zcg, zch, zci, zcj, zck, zcl, zcm, zcn, zco, zcp, zcq, zcr, zcs, zct, zcu, zcv, zcw, zcx, zcy, zcz, zda, zdb, zdc, zdd, zde, zdf, zdg, zdh, zdi, zdj, zdk, zdl, zdm, zdn, zdo, zdp, zdq, zdr, zds, zdt, zdu, zdv, zdw, zdx, zdy, zdz, zea, zeb, zec, zed, zee, zef, zeg, zeh, zei, zej, zek, zel, zem, zen, zeo, zep, zeq, zer, zes, zet, zeu, zev, zew, zex, zey, zez, zfa, zfb, zfc, zfd, zfe, zff, zfg, zfh, zfi, zfj, zfk, zgh, zgi, zgj, zgk, zgl, zgm, zgn, zgo, zgp, zgq, zgr, zgs, zgt, zgu, Nat.reduceShiftRight, Nat.reduceMod, Nat.reduceEqDiff, Nat.reduceAdd, ↓reduceIte, reduceCtorEq, zgv, zgw, len_str, hc, hres]
    exact hK _
theorem prefG27 (X : T Ext) (hX : (En X).ext.get 27 = none) (hX1 : (En X).ext.get 41 = none) (l p : List UInt8) (s : St) (K : V → St → Prop) (hK : ∀ s', K (.w (.c (.bool (pre l p)))) s') :
    goC (En X) 27 [.c (.str (Str.ofL l)), .c (.str (Str.ofL p))] s K := by
  refine goC_body hX (kp27 X) (fn27 X) rfl (by kernel_rfl) ?_
  have hres : Tryd.f27.results.toList = [.tmp 4] := rfl
  simp only [zaa, zab, zac, zad, zae, zaf, zag, zah, zai, zaj, zak, zal, zam, zan, zao, zap, zaq, zar, zas, zat, zau, zav, zaw, zax, zay, zaz, zba, zbb, zbc, zbd, zbe, go_b, zbf, zbg, zbh, zbi, zbj, zbk, zbl, zbm, zbd, zbe, zbn, zbo, zbp, zbq, zbr, zbw, zbx, zby, zbz, zca, zcb, zcc, zcd, zce, zcf, zcg, zch, zci, zcj, zck, zcl, zcm, zcn, zco, zcp, zcq, zcr, zcs, zct, zcu, zcv, zcw, zcx, zcy, zcz, zda, zdb, zdc, zdd, zde, zdf, zdg, zdh, zdi, zdj, zdk, zdl, zdm, zdn, zdo, zdp, zdq, zdr, zds, zdt, zdu, zdv, zdw, zdx, zdy, zdz, zea, zeb, zec, zed, zee, zef, zeg, zeh, zei, zej, zek, zel, zem, zen, zeo, zep, zeq, zer, zes, zet, zeu, zev, zew, zex, zey, zez, zfa, zfb, zfc, zfd, zfe, zff, zfg, zfh, zfi, zfj, zfk, zgh, zgi, zgj, zgk, zgl, zgm, zgn, zgo, zgp, zgq, zgr, zgs, zgt, zgu, Nat.reduceShiftRight, Nat.reduceMod, Nat.reduceEqDiff, Nat.reduceAdd, ↓reduceIte, reduceCtorEq, zgv, zgw]
  refine go_call _ _ _ _ _ _ (ws := [.c (.str (Str.ofL l)), .c (.str (Str.ofL p))]) rfl (by simp only [zca, zcb, zcc, zcd, zce, zcf, zcg, zch, zci, zcj, zck, zcl, zcm, zcn, zco, zcp, zcq, zcr, zcs, zct, zcu, zcv, zcw, zcx, zcy, zcz, zda, zdb, zdc, zdd, zde, zdf, zdg, zdh, zdi, zdj, zdk, zdl, zdm, zdn, zdo, zdp, zdq, zdr, zds, zfj, zfk, zgl, zgm, zgn, zgo, zgp, zgq, zgr, zgs, zgt, zgu, Nat.reduceShiftRight, Nat.reduceMod, Nat.reduceEqDiff, Nat.reduceAdd, ↓reduceIte, reduceCtorEq, zgv, zgw, argsOf_cons, argsOf_nil]) ?_
  refine prefG41 X hX1 l p _ _ fun s2 => ?_
  simp only [zaa, zab, zac, zad, zae, zaf, zag, zah, zai, zaj, zak, zal, zam, zan, zao, zap, zaq, zar, zas, zat, zau, zav, zaw, zax, zay, zaz, zba, zbb, zbc, zbd, zbe, go_b, zbf, zbg, zbh, zbi, zbj, zbk, zbl, zbm, zbd, zbe, zbn, zbo, zbp, zbq, zbr, zbw, zbx, zby, zbz, zca, zcb, zcc, zcd, zce, zcf, zcg, zch, zci, zcj, zck, zcl, zcm, zcn, zco, zcp, zcq, zcr, zcs, zct, zcu, zcv, zcw, zcx, zcy, zcz, zda, zdb, zdc, zdd, zde, zdf, zdg, zdh, zdi, zdj, zdk, zdl, zdm, zdn, zdo, zdp, zdq, zdr, zds, zdt, zdu, zdv, zdw, zdx, zdy, zdz, zea, zeb, zec, zed, zee, zef, zeg, zeh, zei, zej, zek, zel, zem, zen, zeo, zep, zeq, zer, zes, zet, zeu, zev, zew, zex, zey, zez, zfa, zfb, zfc, zfd, zfe, zff, zfg, zfh, zfi, zfj, zfk, zgh, zgi, zgj, zgk, zgl, zgm, zgn, zgo, zgp, zgq, zgr, zgs, zgt, zgu, Nat.reduceShiftRight, Nat.reduceMod, Nat.reduceEqDiff, Nat.reduceAdd, ↓reduceIte, reduceCtorEq, zgv, zgw, hres]
  exact hK _
def RPreG (ps : List PW) (v : PV) : Prop := ∃ l p, ps = [.c (.str (Str.ofL l)), .c (.str (Str.ofL p))] ∧ v = .w (.c (.bool (pre l p)))
noncomputable def e27 : Nat × Ext := (27, .fn (ofG RPreG) [])
theorem c27 : Ok e27 := fn_of_go_g (exts := []) ok0 rfl [] rfl _ (by
  rintro ps pv ⟨l, p, rfl, rfl⟩
  exact prefG27 _ rfl rfl l p _ _ fun s' => ⟨[], rfl⟩)
theorem callR_preG {X : T Ext} (h : (En X).ext.get 27 = some (.fn (ofG RPreG) [])) (l p : List UInt8) (s : St) : CallR (En X) 27 [.c (.str (Str.ofL l)), .c (.str (Str.ofL p))] s (.w (.c (.bool (pre l p)))) s :=
  callR_fn (ps := [.c (.str (Str.ofL l)), .c (.str (Str.ofL p))]) (pv := .w (.c (.bool (pre l p)))) h (ofG_eq ⟨l, p, rfl, rfl⟩ (by
    rintro v' ⟨l', p', h1, rfl⟩
    simp only [List.cons.injEq, PW.c.injEq, D.str.injEq, and_true] at h1
    rw [ofL_inj h1.1, ofL_inj h1.2])) rfl
/-! the parser's cells -/
def prD (l : List UInt8) (b : Bool) : List D := [.str (Str.ofL l), .bool b]
theorem pr_plain (l : List UInt8) (b : Bool) : (prD l b).all D.plain = true := rfl
theorem pr_inj {l l' : List UInt8} {b b' : Bool} (h : prD l b = prD l' b') : l = l' ∧ b = b' := by
  simp only [prD, List.cons.injEq, D.str.injEq, D.bool.injEq, and_true] at h
  exact ⟨ofL_inj h.1, h.2⟩
theorem pr_frz (look : Look) (l : List UInt8) (b : Bool) : mapO (frzC look 2000) (cellsD (prD l b)) = some (prD l b, []) := mapO_plain look 2000 _ rfl
theorem st9 (X : T Ext) (s : St) (b o : Nat) (w : W) : store (En X) 9 s b o w = if w.cells.length = 1 then writeL s b o w.cells else none := store_of (tab9 X) tis9 s b o w
theorem st4 (X : T Ext) (s : St) (b o : Nat) (w : W) : store (En X) 4 s b o w = if w.cells.length = 1 then writeL s b o w.cells else none := store_of (tab4 X) tis4 s b o w
theorem pr0 {s : St} {b : Nat} {l : List UInt8} {bd : Bool} (h : LRow s b (cellsD (prD l bd))) : ldHC s.h.get b 0 = some (.c (.str (Str.ofL l))) := h.ldC rfl
theorem pr1 {s : St} {b : Nat} {l : List UInt8} {bd : Bool} (h : LRow s b (cellsD (prD l bd))) : ldHC s.h.get b 1 = some (.c (.bool bd)) := h.ldC rfl
theorem pr_set0 {s : St} {b : Nat} {l : List UInt8} {bd : Bool} (h : LRow s b (cellsD (prD l bd))) (l' : List UInt8) : ∃ s', writeL s b 0 [.str (Str.ofL l')] = some s' ∧ LRow s' b (cellsD (prD l' bd)) ∧ s'.nx = s.nx ∧ ∀ x, x ≠ b → s'.h.get x = s.h.get x := h.one (o := 0) (.str (Str.ofL l')) (show 0 < 2 by omega)
theorem pr_set1 {s : St} {b : Nat} {l : List UInt8} {bd : Bool} (h : LRow s b (cellsD (prD l bd))) (bd' : Bool) : ∃ s', writeL s b 1 [.bool bd'] = some s' ∧ LRow s' b (cellsD (prD l bd')) ∧ s'.nx = s.nx ∧ ∀ x, x ≠ b → s'.h.get x = s.h.get x := h.one (o := 1) (.bool bd') (show 1 < 2 by omega)
theorem lit_bl : Str.of { data := #[32, 9, 10] } = Str.ofL litBl := of_lit [32, 9, 10]
/-- what a method's walk comes to: the value and the receiver's cells -/
def MeK (pv : PV) (l : List UInt8) (b : Bool) (v : V) (s' : St) : Prop := ∃ bs l' bs2, frzV s'.h.get v = some (pv, bs) ∧ Tryd.prog.globals.size ∉ bs ∧ LRow s' Tryd.prog.globals.size l' ∧ mapO (frzC s'.h.get 2000) l' = some (prD l b, bs2) ∧ Tryd.prog.globals.size ∉ bs2
theorem meK {pv : PV} {l : List UInt8} {b : Bool} {v : V} {s' : St} {bs : List Nat} (h : frzV s'.h.get v = some (pv, bs)) (hb : Tryd.prog.globals.size ∉ bs) (hr : LRow s' Tryd.prog.globals.size (cellsD (prD l b))) : MeK pv l b v s' :=
  ⟨bs, _, [], h, hb, hr, pr_frz _ l b, fun h => by cases h⟩
/-! past blanks -/
theorem skips11 (X : T Ext) (hX : (En X).ext.get 11 = none) (h19 : (En X).ext.get 19 = some (.fn (ofG RTrim) [])) (l : List UInt8) (bd : Bool) (b : Nat) (s : St) (K : V → St → Prop) (hr : LRow s b (cellsD (prD l bd)))
    (hK : ∀ s' : St, LRow s' b (cellsD (prD (dropBl l) bd)) → K (.tup []) s') : goC (En X) 11 [.c (.ptr b 0)] s K := by
  refine goC_body hX (kp11 X) (fn11 X) rfl (by kernel_rfl) ?_
  have hres : Tryd.f11.results.toList = [] := rfl
  have c0 := pr0 hr
  simp only [zaa, zab, zac, zad, zae, zaf, zag, zah, zai, zaj, zak, zal, zam, zan, zao, zap, zaq, zar, zas, zat, zau, zav, zaw, zax, zay, zaz, zba, zbb, zbc, zbd, zbe, go_b, zbf, zbg, zbh, zbi, zbj, zbk, zbl, zbm, zbd, zbe, zbn, zbo, zbp, zbq, zbr, zbw, zbx, zby, zbz, zca, zcb, zcc, zcd, zce, zcf, zcg, zch, zci, zcj, zck, zcl, zcm, zcn, zco, zcp, zcq, zcr, zcs, zct, zcu, zcv, zcw, zcx, zcy, zcz, zda, zdb, zdc, zdd, zde, zdf, zdg, zdh, zdi, zdj, zdk, zdl, zdm, zdn, zdo, zdp, zdq, zdr, zds, zdt, zdu, zdv, zdw, zdx, zdy, zdz, zea, zeb, zec, zed, zee, zef, zeg, zeh, zei, zej, zek, zel, zem, zen, zeo, zep, zeq, zer, zes, zet, zeu, zev, zew, zex, zey, zez, zfa, zfb, zfc, zfd, zfe, zff, zfg, zfh, zfi, zfj, zfk, zgh, zgi, zgj, zgk, zgl, zgm, zgn, zgo, zgp, zgq, zgr, zgs, zgt, zgu, Nat.reduceShiftRight, Nat.reduceMod, Nat.reduceEqDiff, Nat.reduceAdd, ↓reduceIte, reduceCtorEq, zgv, zgw, rNil_eq, fA_36_0, ldh9, c0, lit_bl]
  refine go_call _ _ _ _ _ _ (ws := [.c (.str (Str.ofL l)), .c (.str (Str.ofL litBl))]) rfl (by simp only [zca, zcb, zcc, zcd, zce, zcf, zcg, zch, zci, zcj, zck, zcl, zcm, zcn, zco, zcp, zcq, zcr, zcs, zct, zcu, zcv, zcw, zcx, zcy, zcz, zda, zdb, zdc, zdd, zde, zdf, zdg, zdh, zdi, zdj, zdk, zdl, zdm, zdn, zdo, zdp, zdq, zdr, zds, zfj, zfk, zgl, zgm, zgn, zgo, zgp, zgq, zgr, zgs, zgt, zgu, Nat.reduceShiftRight, Nat.reduceMod, Nat.reduceEqDiff, Nat.reduceAdd, ↓reduceIte, reduceCtorEq, zgv, zgw, argsOf_cons, argsOf_nil, lit_bl]) ?_
  refine goC_of (callR_trim h19 l _) ?_
  obtain ⟨s2, w1, r1, n1, f1⟩ := pr_set0 hr (dropBl l)
  have hl1 : ([.str (Str.ofL (dropBl l))] : List C).length = 1 := rfl
  simp only [zaa, zab, zac, zad, zae, zaf, zag, zah, zai, zaj, zak, zal, zam, zan, zao, zap, zaq, zar, zas, zat, zau, zav, zaw, zax, zay, zaz, zba, zbb, zbc, zbd, zbe, go_b, zbf, zbg, zbh, zbi, zbj, zbk, zbl, zbm, zbd, zbe, zbn, zbo, zbp, zbq, zbr, zbw, zbx, zby, zbz, zca, zcb, zcc, zcd, zce, zcf, zcg, zch, zci, zcj, zck, zcl, zcm, zcn, zco, zcp, zcq, zcr, zcs, zct, zcu, zcv, zcw, zcx, zcy, zcz, zda, zdb, zdc, zdd, zde, zdf, zdg, zdh, zdi, zdj, zdk, zdl, zdm, zdn, zdo, zdp, zdq, zdr, zds, zdt, zdu, zdv, zdw, zdx, zdy, zdz, zea, zeb, zec, zed, zee, zef, zeg, zeh, zei, zej, zek, zel, zem, zen, zeo, zep, zeq, zer, zes, zet, zeu, zev, zew, zex, zey, zez, zfa, zfb, zfc, zfd, zfe, zff, zfg, zfh, zfi, zfj, zfk, zgh, zgi, zgj, zgk, zgl, zgm, zgn, zgo, zgp, zgq, zgr, zgs, zgt, zgu, Nat.reduceShiftRight, Nat.reduceMod, Nat.reduceEqDiff, Nat.reduceAdd, ↓reduceIte, reduceCtorEq, zgv, zgw, rNil_eq, fA_36_0, st9, hl1, w1, hres]
  exact hK _ r1
def RSkip (ds : List D) (ps : List PW) (v : PV × List D) : Prop := ∃ l b, ds = prD l b ∧ ps = [] ∧ v = (.tup [], prD (dropBl l) b)
noncomputable def e11 : Nat × Ext := (11, .me (ofM RSkip) [])
theorem c11 : Ok e11 := me_goE (exts := [e19]) Ak.any_ok types_ok fns_ok (ok1 c19 ok0) RSkip (fun _ _ _ _ x hx => by cases hx) (by
  rintro ds ps pv ds' ⟨l, b, rfl, rfl, h⟩
  cases h
  exact skips11 _ rfl rfl l b _ _ _ (stM_LRow _ _) fun s' hr => meK (bs := []) rfl (fun h => by cases h) hr)
theorem callR_skip {X : T Ext} (h11 : (En X).ext.get 11 = some (.me (ofM RSkip) [])) {l : List UInt8} {bd : Bool} {b : Nat} {s : St} (hr : LRow s b (cellsD (prD l bd))) :
    ∃ s2, CallR (En X) 11 [.c (.ptr b 0)] s (.tup []) s2 ∧ LRow s2 b (cellsD (prD (dropBl l) bd)) ∧ s2.nx = s.nx ∧ ∀ x, x ≠ b → s2.h.get x = s.h.get x :=
  callR_me (ps := []) (pv := .tup []) h11 hr rfl rfl ⟨l, bd, rfl, rfl, rfl⟩ (by
    rintro v ⟨l', b', h1, _, rfl⟩
    obtain ⟨rfl, rfl⟩ := pr_inj h1; rfl) rfl
end Ar
