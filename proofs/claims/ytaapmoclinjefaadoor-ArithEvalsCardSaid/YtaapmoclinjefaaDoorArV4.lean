import Derived.Test.YtaapmoclinjefaaDoorArRj
import Derived.Test.YtaapmoclinjefaaDoorEwL
namespace Ar
open Go Go.Proofs Ev Go.Lib Nu
set_option linter.unusedVariables false
set_option linter.unusedSimpArgs false
set_option linter.unnecessarySimpa false
set_option maxRecDepth 100000
theorem tkP_cases (l : List UInt8) : (pre (dropBl l) [42] = true ∧ tk sgP l = ([42], (dropBl l).drop 1)) ∨ (pre (dropBl l) [42] = false ∧ pre (dropBl l) [47] = true ∧ tk sgP l = ([47], (dropBl l).drop 1)) ∨ (pre (dropBl l) [42] = false ∧ pre (dropBl l) [47] = false ∧ pre (dropBl l) [37] = true ∧ tk sgP l = ([37], (dropBl l).drop 1)) ∨ (pre (dropBl l) [42] = false ∧ pre (dropBl l) [47] = false ∧ pre (dropBl l) [37] = false ∧ tk sgP l = ([], dropBl l)) := by
  unfold tk sgP takeF takeF takeF takeF
  cases pre (dropBl l) [42] with
  | true => exact .inl ⟨rfl, rfl⟩
  | false =>
    cases pre (dropBl l) [47] with
    | true => exact .inr (.inl ⟨rfl, rfl, rfl⟩)
    | false =>
      cases pre (dropBl l) [37] with
      | true => exact .inr (.inr (.inl ⟨rfl, rfl, rfl, rfl⟩))
      | false =>
        exact .inr (.inr (.inr ⟨rfl, rfl, rfl, rfl⟩))
theorem tkS_cases (l : List UInt8) : (pre (dropBl l) [43] = true ∧ tk sgS l = ([43], (dropBl l).drop 1)) ∨ (pre (dropBl l) [43] = false ∧ pre (dropBl l) [45] = true ∧ tk sgS l = ([45], (dropBl l).drop 1)) ∨ (pre (dropBl l) [43] = false ∧ pre (dropBl l) [45] = false ∧ tk sgS l = ([], dropBl l)) := by
  unfold tk sgS takeF takeF takeF
  cases pre (dropBl l) [43] with
  | true => exact .inl ⟨rfl, rfl⟩
  | false =>
    cases pre (dropBl l) [45] with
    | true => exact .inr (.inl ⟨rfl, rfl, rfl⟩)
    | false =>
      exact .inr (.inr ⟨rfl, rfl, rfl⟩)
theorem tkX_cases (l : List UInt8) : (pre (dropBl l) [60, 61] = true ∧ tk sgX l = ([60, 61], (dropBl l).drop 2)) ∨ (pre (dropBl l) [60, 61] = false ∧ pre (dropBl l) [62, 61] = true ∧ tk sgX l = ([62, 61], (dropBl l).drop 2)) ∨ (pre (dropBl l) [60, 61] = false ∧ pre (dropBl l) [62, 61] = false ∧ pre (dropBl l) [61, 61] = true ∧ tk sgX l = ([61, 61], (dropBl l).drop 2)) ∨ (pre (dropBl l) [60, 61] = false ∧ pre (dropBl l) [62, 61] = false ∧ pre (dropBl l) [61, 61] = false ∧ pre (dropBl l) [33, 61] = true ∧ tk sgX l = ([33, 61], (dropBl l).drop 2)) ∨ (pre (dropBl l) [60, 61] = false ∧ pre (dropBl l) [62, 61] = false ∧ pre (dropBl l) [61, 61] = false ∧ pre (dropBl l) [33, 61] = false ∧ pre (dropBl l) [60] = true ∧ tk sgX l = ([60], (dropBl l).drop 1)) ∨ (pre (dropBl l) [60, 61] = false ∧ pre (dropBl l) [62, 61] = false ∧ pre (dropBl l) [61, 61] = false ∧ pre (dropBl l) [33, 61] = false ∧ pre (dropBl l) [60] = false ∧ pre (dropBl l) [62] = true ∧ tk sgX l = ([62], (dropBl l).drop 1)) ∨ (pre (dropBl l) [60, 61] = false ∧ pre (dropBl l) [62, 61] = false ∧ pre (dropBl l) [61, 61] = false ∧ pre (dropBl l) [33, 61] = false ∧ pre (dropBl l) [60] = false ∧ pre (dropBl l) [62] = false ∧ tk sgX l = ([], dropBl l)) := by
  unfold tk sgX takeF takeF takeF takeF takeF takeF takeF
  cases pre (dropBl l) [60, 61] with
  | true => exact .inl ⟨rfl, rfl⟩
  | false =>
    cases pre (dropBl l) [62, 61] with
    | true => exact .inr (.inl ⟨rfl, rfl, rfl⟩)
    | false =>
      cases pre (dropBl l) [61, 61] with
      | true => exact .inr (.inr (.inl ⟨rfl, rfl, rfl, rfl⟩))
      | false =>
        cases pre (dropBl l) [33, 61] with
        | true => exact .inr (.inr (.inr (.inl ⟨rfl, rfl, rfl, rfl, rfl⟩)))
        | false =>
          cases pre (dropBl l) [60] with
          | true => exact .inr (.inr (.inr (.inr (.inl ⟨rfl, rfl, rfl, rfl, rfl, rfl⟩))))
          | false =>
            cases pre (dropBl l) [62] with
            | true => exact .inr (.inr (.inr (.inr (.inr (.inl ⟨rfl, rfl, rfl, rfl, rfl, rfl, rfl⟩)))))
            | false =>
              exact .inr (.inr (.inr (.inr (.inr (.inr ⟨rfl, rfl, rfl, rfl, rfl, rfl, rfl⟩)))))
theorem prodR38 (X : T Ext) {n : Nat} (hX : (En X).ext.get 38 = none) (hS : (En X).ext.get 49 = some (.me (ofM (RR .U n)) [])) (h24 : (En X).ext.get 24 = some (.me (ofM REat) [])) (h50 : (En X).ext.get 50 = some (.me (ofM (ROp mulR)) [])) (h51 : (En X).ext.get 51 = some (.me (ofM RDv) []))
    {s l : List UInt8} {d : D} {m : Bool} {vs : List (List UInt8 × List UInt8)} (hl : l <:+ s) (hs : s.length ≤ 900) (hv : IsV d vs) (ho : okVs vs) (hn : l.length < n) {x : Int} {l' : List UInt8} {f' m' : Bool} (hp : Rk vs .P l false m x l' f' m') {b : Nat} {S : St} (hr : LRow S b (cellsD (rkL s l d false m)))
    (K : V → St → Prop) (hK : ∀ S', LRow S' b (cellsD (rkL s l' d f' m')) → K (.w (.c (.int .i64 x))) S') : goC (En X) 38 [.c (.ptr b 0)] S K := by
  refine goC_body hX (kp38 X) (fn38 X) rfl (by kernel_rfl) ?_
  have hres : Tryd.f38.results.toList = [.tmp 2] := rfl
  have hd := isV_plain hv
  cases hp with
  | @prod _ _ a0 l1 f1 m1 _ _ _ _ hU hPL =>
    obtain ⟨S2, hc, r2, n2, f2⟩ := callR_R hS hl hs hv ho hn hU hr
    simp only [zEV, Nat.reduceShiftRight, Nat.reduceMod, Nat.reduceEqDiff, Nat.reduceAdd, ↓reduceIte, reduceCtorEq]
    refine go_call _ _ _ _ _ _ (ws := [.c (.ptr b 0)]) rfl (by simp only [zEA, Nat.reduceShiftRight, Nat.reduceMod, Nat.reduceEqDiff, Nat.reduceAdd, ↓reduceIte, reduceCtorEq, argsOf_cons, argsOf_nil]) ?_
    refine goC_of hc ?_
    have hle1 := suf_len hU.suf
    simp only [zEV, Nat.reduceShiftRight, Nat.reduceMod, Nat.reduceEqDiff, Nat.reduceAdd, ↓reduceIte, reduceCtorEq]
    refine go_loop (goL_inv (fun n' a' S' => ∃ lc fc mc ac, n' = lc.length ∧ lc.length < n ∧ lc <:+ s ∧ inR ac ∧ Rk vs (.PL ac) lc fc mc x l' f' m' ∧ Has a' 0 (vc (.ptr b 0)) ∧ Has a' 3 (vc (.int .i64 ac)) ∧ LRow S' b (cellsD (rkL s lc d fc mc))) (n := l1.length)
      ⟨l1, f1, m1, a0, rfl, by omega, (hU.suf).trans hl, hU.in trivial, hPL, ⟨rfl, rfl⟩, ⟨rfl, rfl⟩, r2⟩ ?_)
    rintro n' a' S3 ⟨lc, fc, mc, ac, rfl, hlc, hsuf, hin, hq, ⟨g0, k0⟩, ⟨g3, k3⟩, r3⟩
    have hqs := List.IsSuffix.trans (dropBl_suf lc) hsuf
    have hidem := dropBl_idem lc
    cases hq with
    | pbad =>
      simp only [zEV, Nat.reduceShiftRight, Nat.reduceMod, Nat.reduceEqDiff, Nat.reduceAdd, ↓reduceIte, reduceCtorEq, g0, k0, g3, k3]
      obtain ⟨T1, hc_T1, q1, n_T1, f_T1⟩ := callR_eatX h24 hsuf hs hd r3 (p := [42]) (by decide)
      refine go_call _ _ _ _ _ _ (ws := [.c (.ptr b 0), .c (.str (Str.ofL [42]))]) rfl (by simp only [zEV, Nat.reduceShiftRight, Nat.reduceMod, Nat.reduceEqDiff, Nat.reduceAdd, ↓reduceIte, reduceCtorEq, g0, k0, g3, k3, argsOf_cons, argsOf_nil, lit_c42]) ?_
      refine goC_of hc_T1 ?_
      simp only [zEV, Nat.reduceShiftRight, Nat.reduceMod, Nat.reduceEqDiff, Nat.reduceAdd, ↓reduceIte, reduceCtorEq, g0, k0, g3, k3]
      obtain ⟨T2, hc_T2, q2, n_T2, f_T2⟩ := callR_eatX h24 hqs hs hd q1 (p := [47]) (by decide)
      refine go_call _ _ _ _ _ _ (ws := [.c (.ptr b 0), .c (.str (Str.ofL [47]))]) rfl (by simp only [zEV, Nat.reduceShiftRight, Nat.reduceMod, Nat.reduceEqDiff, Nat.reduceAdd, ↓reduceIte, reduceCtorEq, g0, k0, g3, k3, argsOf_cons, argsOf_nil, lit_c47]) ?_
      refine goC_of hc_T2 ?_
      rw [hidem] at q2
      simp only [zEV, Nat.reduceShiftRight, Nat.reduceMod, Nat.reduceEqDiff, Nat.reduceAdd, ↓reduceIte, reduceCtorEq, g0, k0, g3, k3]
      obtain ⟨T3, hc_T3, q3, n_T3, f_T3⟩ := callR_eatX h24 hqs hs hd q2 (p := [37]) (by decide)
      refine go_call _ _ _ _ _ _ (ws := [.c (.ptr b 0), .c (.str (Str.ofL [37]))]) rfl (by simp only [zEV, Nat.reduceShiftRight, Nat.reduceMod, Nat.reduceEqDiff, Nat.reduceAdd, ↓reduceIte, reduceCtorEq, g0, k0, g3, k3, argsOf_cons, argsOf_nil, lit_c37]) ?_
      refine goC_of hc_T3 ?_
      rw [hidem] at q3
      simp only [zEV, Nat.reduceShiftRight, Nat.reduceMod, Nat.reduceEqDiff, Nat.reduceAdd, ↓reduceIte, reduceCtorEq, g0, k0, g3, k3, hres]
      exact hK _ q3
    | pend h1 =>
      have hpp : pre (dropBl lc) [42] = false ∧ pre (dropBl lc) [47] = false ∧ pre (dropBl lc) [37] = false ∧ (tk sgP lc).2 = dropBl lc := by
        rcases tkP_cases lc with ⟨e0, e1⟩ | ⟨e0, e1, e2⟩ | ⟨e0, e1, e2, e3⟩ | ⟨e0, e1, e2, e3⟩
        · rw [e1] at h1; cases h1
        · rw [e2] at h1; cases h1
        · rw [e3] at h1; cases h1
        · exact ⟨e0, e1, e2, by rw [e3]⟩
      obtain ⟨p1, p2, p3, hl2⟩ := hpp
      rw [hl2] at hK
      simp only [zEV, Nat.reduceShiftRight, Nat.reduceMod, Nat.reduceEqDiff, Nat.reduceAdd, ↓reduceIte, reduceCtorEq, g0, k0, g3, k3]
      obtain ⟨T1, hc_T1, q1, n_T1, f_T1⟩ := callR_eatF h24 hsuf hs hd r3 (p := [42]) (by decide) p1
      refine go_call _ _ _ _ _ _ (ws := [.c (.ptr b 0), .c (.str (Str.ofL [42]))]) rfl (by simp only [zEV, Nat.reduceShiftRight, Nat.reduceMod, Nat.reduceEqDiff, Nat.reduceAdd, ↓reduceIte, reduceCtorEq, g0, k0, g3, k3, argsOf_cons, argsOf_nil, lit_c42]) ?_
      refine goC_of hc_T1 ?_
      simp only [zEV, Nat.reduceShiftRight, Nat.reduceMod, Nat.reduceEqDiff, Nat.reduceAdd, ↓reduceIte, reduceCtorEq, g0, k0, g3, k3]
      obtain ⟨T2, hc_T2, q2, n_T2, f_T2⟩ := callR_eatF h24 hqs hs hd q1 (p := [47]) (by decide) (by rw [hidem]; exact p2)
      refine go_call _ _ _ _ _ _ (ws := [.c (.ptr b 0), .c (.str (Str.ofL [47]))]) rfl (by simp only [zEV, Nat.reduceShiftRight, Nat.reduceMod, Nat.reduceEqDiff, Nat.reduceAdd, ↓reduceIte, reduceCtorEq, g0, k0, g3, k3, argsOf_cons, argsOf_nil, lit_c47]) ?_
      refine goC_of hc_T2 ?_
      rw [hidem] at q2
      simp only [zEV, Nat.reduceShiftRight, Nat.reduceMod, Nat.reduceEqDiff, Nat.reduceAdd, ↓reduceIte, reduceCtorEq, g0, k0, g3, k3]
      obtain ⟨T3, hc_T3, q3, n_T3, f_T3⟩ := callR_eatF h24 hqs hs hd q2 (p := [37]) (by decide) (by rw [hidem]; exact p3)
      refine go_call _ _ _ _ _ _ (ws := [.c (.ptr b 0), .c (.str (Str.ofL [37]))]) rfl (by simp only [zEV, Nat.reduceShiftRight, Nat.reduceMod, Nat.reduceEqDiff, Nat.reduceAdd, ↓reduceIte, reduceCtorEq, g0, k0, g3, k3, argsOf_cons, argsOf_nil, lit_c37]) ?_
      refine goC_of hc_T3 ?_
      rw [hidem] at q3
      simp only [zEV, Nat.reduceShiftRight, Nat.reduceMod, Nat.reduceEqDiff, Nat.reduceAdd, ↓reduceIte, reduceCtorEq, g0, k0, g3, k3, hres]
      exact hK _ q3
    | @pmore _ _ _ u l2 f2 m2 _ _ _ _ h1 hU2 hPL2 =>
      have hlt := tk_lt h1
      have hle2 := suf_len hU2.suf
      have hui := hU2.in trivial
      rcases tkP_cases lc with ⟨p1, ht⟩ | ⟨p1, p2, ht⟩ | ⟨p1, p2, p3, ht⟩ | ⟨p1, p2, p3, ht⟩
      · rw [ht] at hU2 hPL2 hlt hle2
        simp only [zEV, Nat.reduceShiftRight, Nat.reduceMod, Nat.reduceEqDiff, Nat.reduceAdd, ↓reduceIte, reduceCtorEq, g0, k0, g3, k3]
        obtain ⟨T1, hc_T1, q1, n_T1, f_T1⟩ := callR_eatT h24 hsuf hs hd r3 (p := [42]) (by decide) p1
        refine go_call _ _ _ _ _ _ (ws := [.c (.ptr b 0), .c (.str (Str.ofL [42]))]) rfl (by simp only [zEV, Nat.reduceShiftRight, Nat.reduceMod, Nat.reduceEqDiff, Nat.reduceAdd, ↓reduceIte, reduceCtorEq, g0, k0, g3, k3, argsOf_cons, argsOf_nil, lit_c42]) ?_
        refine goC_of hc_T1 ?_
        simp only [zEV, Nat.reduceShiftRight, Nat.reduceMod, Nat.reduceEqDiff, Nat.reduceAdd, ↓reduceIte, reduceCtorEq, g0, k0, g3, k3]
        have hsd := suf_drop2 hqs 1
        have hlt2 : ((dropBl lc).drop 1).length < lc.length := hlt
        obtain ⟨S6, hc6, r6, n6, f6⟩ := callR_R hS hsd hs hv ho (by omega) hU2 q1
        refine go_call _ _ _ _ _ _ (ws := [.c (.ptr b 0)]) rfl (by simp only [zEV, Nat.reduceShiftRight, Nat.reduceMod, Nat.reduceEqDiff, Nat.reduceAdd, ↓reduceIte, reduceCtorEq, g0, k0, g3, k3, argsOf_cons, argsOf_nil]) ?_
        refine goC_of hc6 ?_
        simp only [zEV, Nat.reduceShiftRight, Nat.reduceMod, Nat.reduceEqDiff, Nat.reduceAdd, ↓reduceIte, reduceCtorEq, g0, k0, g3, k3]
        obtain ⟨S7, hc7, r7, n7, f7⟩ := callR_op h50 hd hin hui r6
        refine go_call _ _ _ _ _ _ (ws := [.c (.ptr b 0), .c (.int .i64 ac), .c (.int .i64 u)]) rfl (by simp only [zEV, Nat.reduceShiftRight, Nat.reduceMod, Nat.reduceEqDiff, Nat.reduceAdd, ↓reduceIte, reduceCtorEq, g0, k0, g3, k3, argsOf_cons, argsOf_nil]) ?_
        refine goC_of hc7 ?_
        simp only [zEV, Nat.reduceShiftRight, Nat.reduceMod, Nat.reduceEqDiff, Nat.reduceAdd, ↓reduceIte, reduceCtorEq, g0, k0, g3, k3]
        refine ⟨l2.length, ?_, l2, f2, _, _, rfl, ?_, ?_, ?_, hPL2, ⟨?_, ?_⟩, ⟨?_, ?_⟩, r7⟩
        · have : l2.length ≤ ((dropBl lc).drop 1).length := hle2
          omega
        · have : l2.length ≤ ((dropBl lc).drop 1).length := hle2
          omega
        · exact (hU2.suf).trans hsd
        · exact op_in hin
        all_goals first | (simp only [zEA, Nat.reduceShiftRight, Nat.reduceMod, Nat.reduceEqDiff, Nat.reduceAdd, ↓reduceIte, reduceCtorEq, g0, k0, g3, k3]; done) | (simp only [zEV, Nat.reduceShiftRight, Nat.reduceMod, Nat.reduceEqDiff, Nat.reduceAdd, ↓reduceIte, reduceCtorEq, g0, k0, g3, k3]; rfl)
      · rw [ht] at hU2 hPL2 hlt hle2
        simp only [zEV, Nat.reduceShiftRight, Nat.reduceMod, Nat.reduceEqDiff, Nat.reduceAdd, ↓reduceIte, reduceCtorEq, g0, k0, g3, k3]
        obtain ⟨T1, hc_T1, q1, n_T1, f_T1⟩ := callR_eatF h24 hsuf hs hd r3 (p := [42]) (by decide) p1
        refine go_call _ _ _ _ _ _ (ws := [.c (.ptr b 0), .c (.str (Str.ofL [42]))]) rfl (by simp only [zEV, Nat.reduceShiftRight, Nat.reduceMod, Nat.reduceEqDiff, Nat.reduceAdd, ↓reduceIte, reduceCtorEq, g0, k0, g3, k3, argsOf_cons, argsOf_nil, lit_c42]) ?_
        refine goC_of hc_T1 ?_
        simp only [zEV, Nat.reduceShiftRight, Nat.reduceMod, Nat.reduceEqDiff, Nat.reduceAdd, ↓reduceIte, reduceCtorEq, g0, k0, g3, k3]
        obtain ⟨T2, hc_T2, q2, n_T2, f_T2⟩ := callR_eatT h24 hqs hs hd q1 (p := [47]) (by decide) (by rw [hidem]; exact p2)
        refine go_call _ _ _ _ _ _ (ws := [.c (.ptr b 0), .c (.str (Str.ofL [47]))]) rfl (by simp only [zEV, Nat.reduceShiftRight, Nat.reduceMod, Nat.reduceEqDiff, Nat.reduceAdd, ↓reduceIte, reduceCtorEq, g0, k0, g3, k3, argsOf_cons, argsOf_nil, lit_c47]) ?_
        refine goC_of hc_T2 ?_
        rw [hidem] at q2
        simp only [zEV, Nat.reduceShiftRight, Nat.reduceMod, Nat.reduceEqDiff, Nat.reduceAdd, ↓reduceIte, reduceCtorEq, g0, k0, g3, k3]
        have hsd := suf_drop2 hqs 1
        have hlt2 : ((dropBl lc).drop 1).length < lc.length := hlt
        obtain ⟨S6, hc6, r6, n6, f6⟩ := callR_R hS hsd hs hv ho (by omega) hU2 q2
        refine go_call _ _ _ _ _ _ (ws := [.c (.ptr b 0)]) rfl (by simp only [zEV, Nat.reduceShiftRight, Nat.reduceMod, Nat.reduceEqDiff, Nat.reduceAdd, ↓reduceIte, reduceCtorEq, g0, k0, g3, k3, argsOf_cons, argsOf_nil]) ?_
        refine goC_of hc6 ?_
        simp only [zEV, Nat.reduceShiftRight, Nat.reduceMod, Nat.reduceEqDiff, Nat.reduceAdd, ↓reduceIte, reduceCtorEq, g0, k0, g3, k3]
        obtain ⟨S7, hc7, r7, n7, f7⟩ := callR_dv h51 false hd hin hui r6
        refine go_call _ _ _ _ _ _ (ws := [.c (.ptr b 0), .c (.int .i64 ac), .c (.int .i64 u), .c (.bool false)]) rfl (by simp only [zEV, Nat.reduceShiftRight, Nat.reduceMod, Nat.reduceEqDiff, Nat.reduceAdd, ↓reduceIte, reduceCtorEq, g0, k0, g3, k3, argsOf_cons, argsOf_nil]) ?_
        refine goC_of hc7 ?_
        simp only [zEV, Nat.reduceShiftRight, Nat.reduceMod, Nat.reduceEqDiff, Nat.reduceAdd, ↓reduceIte, reduceCtorEq, g0, k0, g3, k3]
        refine ⟨l2.length, ?_, l2, f2, _, _, rfl, ?_, ?_, ?_, hPL2, ⟨?_, ?_⟩, ⟨?_, ?_⟩, r7⟩
        · have : l2.length ≤ ((dropBl lc).drop 1).length := hle2
          omega
        · have : l2.length ≤ ((dropBl lc).drop 1).length := hle2
          omega
        · exact (hU2.suf).trans hsd
        · exact op_in hin
        all_goals first | (simp only [zEA, Nat.reduceShiftRight, Nat.reduceMod, Nat.reduceEqDiff, Nat.reduceAdd, ↓reduceIte, reduceCtorEq, g0, k0, g3, k3]; done) | (simp only [zEV, Nat.reduceShiftRight, Nat.reduceMod, Nat.reduceEqDiff, Nat.reduceAdd, ↓reduceIte, reduceCtorEq, g0, k0, g3, k3]; rfl)
      · rw [ht] at hU2 hPL2 hlt hle2
        simp only [zEV, Nat.reduceShiftRight, Nat.reduceMod, Nat.reduceEqDiff, Nat.reduceAdd, ↓reduceIte, reduceCtorEq, g0, k0, g3, k3]
        obtain ⟨T1, hc_T1, q1, n_T1, f_T1⟩ := callR_eatF h24 hsuf hs hd r3 (p := [42]) (by decide) p1
        refine go_call _ _ _ _ _ _ (ws := [.c (.ptr b 0), .c (.str (Str.ofL [42]))]) rfl (by simp only [zEV, Nat.reduceShiftRight, Nat.reduceMod, Nat.reduceEqDiff, Nat.reduceAdd, ↓reduceIte, reduceCtorEq, g0, k0, g3, k3, argsOf_cons, argsOf_nil, lit_c42]) ?_
        refine goC_of hc_T1 ?_
        simp only [zEV, Nat.reduceShiftRight, Nat.reduceMod, Nat.reduceEqDiff, Nat.reduceAdd, ↓reduceIte, reduceCtorEq, g0, k0, g3, k3]
        obtain ⟨T2, hc_T2, q2, n_T2, f_T2⟩ := callR_eatF h24 hqs hs hd q1 (p := [47]) (by decide) (by rw [hidem]; exact p2)
        refine go_call _ _ _ _ _ _ (ws := [.c (.ptr b 0), .c (.str (Str.ofL [47]))]) rfl (by simp only [zEV, Nat.reduceShiftRight, Nat.reduceMod, Nat.reduceEqDiff, Nat.reduceAdd, ↓reduceIte, reduceCtorEq, g0, k0, g3, k3, argsOf_cons, argsOf_nil, lit_c47]) ?_
        refine goC_of hc_T2 ?_
        rw [hidem] at q2
        simp only [zEV, Nat.reduceShiftRight, Nat.reduceMod, Nat.reduceEqDiff, Nat.reduceAdd, ↓reduceIte, reduceCtorEq, g0, k0, g3, k3]
        obtain ⟨T3, hc_T3, q3, n_T3, f_T3⟩ := callR_eatT h24 hqs hs hd q2 (p := [37]) (by decide) (by rw [hidem]; exact p3)
        refine go_call _ _ _ _ _ _ (ws := [.c (.ptr b 0), .c (.str (Str.ofL [37]))]) rfl (by simp only [zEV, Nat.reduceShiftRight, Nat.reduceMod, Nat.reduceEqDiff, Nat.reduceAdd, ↓reduceIte, reduceCtorEq, g0, k0, g3, k3, argsOf_cons, argsOf_nil, lit_c37]) ?_
        refine goC_of hc_T3 ?_
        rw [hidem] at q3
        simp only [zEV, Nat.reduceShiftRight, Nat.reduceMod, Nat.reduceEqDiff, Nat.reduceAdd, ↓reduceIte, reduceCtorEq, g0, k0, g3, k3]
        have hsd := suf_drop2 hqs 1
        have hlt2 : ((dropBl lc).drop 1).length < lc.length := hlt
        obtain ⟨S6, hc6, r6, n6, f6⟩ := callR_R hS hsd hs hv ho (by omega) hU2 q3
        refine go_call _ _ _ _ _ _ (ws := [.c (.ptr b 0)]) rfl (by simp only [zEV, Nat.reduceShiftRight, Nat.reduceMod, Nat.reduceEqDiff, Nat.reduceAdd, ↓reduceIte, reduceCtorEq, g0, k0, g3, k3, argsOf_cons, argsOf_nil]) ?_
        refine goC_of hc6 ?_
        simp only [zEV, Nat.reduceShiftRight, Nat.reduceMod, Nat.reduceEqDiff, Nat.reduceAdd, ↓reduceIte, reduceCtorEq, g0, k0, g3, k3]
        obtain ⟨S7, hc7, r7, n7, f7⟩ := callR_dv h51 true hd hin hui r6
        refine go_call _ _ _ _ _ _ (ws := [.c (.ptr b 0), .c (.int .i64 ac), .c (.int .i64 u), .c (.bool true)]) rfl (by simp only [zEV, Nat.reduceShiftRight, Nat.reduceMod, Nat.reduceEqDiff, Nat.reduceAdd, ↓reduceIte, reduceCtorEq, g0, k0, g3, k3, argsOf_cons, argsOf_nil]) ?_
        refine goC_of hc7 ?_
        simp only [zEV, Nat.reduceShiftRight, Nat.reduceMod, Nat.reduceEqDiff, Nat.reduceAdd, ↓reduceIte, reduceCtorEq, g0, k0, g3, k3]
        refine ⟨l2.length, ?_, l2, f2, _, _, rfl, ?_, ?_, ?_, hPL2, ⟨?_, ?_⟩, ⟨?_, ?_⟩, r7⟩
        · have : l2.length ≤ ((dropBl lc).drop 1).length := hle2
          omega
        · have : l2.length ≤ ((dropBl lc).drop 1).length := hle2
          omega
        · exact (hU2.suf).trans hsd
        · exact op_in hin
        all_goals first | (simp only [zEA, Nat.reduceShiftRight, Nat.reduceMod, Nat.reduceEqDiff, Nat.reduceAdd, ↓reduceIte, reduceCtorEq, g0, k0, g3, k3]; done) | (simp only [zEV, Nat.reduceShiftRight, Nat.reduceMod, Nat.reduceEqDiff, Nat.reduceAdd, ↓reduceIte, reduceCtorEq, g0, k0, g3, k3]; rfl)
      · rw [ht] at h1; exact absurd rfl h1
theorem sumR23 (X : T Ext) {n : Nat} (hX : (En X).ext.get 23 = none) (hS : (En X).ext.get 38 = some (.me (ofM (RR .P n)) [])) (h24 : (En X).ext.get 24 = some (.me (ofM REat) [])) (h39 : (En X).ext.get 39 = some (.me (ofM (ROp addR)) [])) (h40 : (En X).ext.get 40 = some (.me (ofM (ROp subR)) []))
    {s l : List UInt8} {d : D} {m : Bool} {vs : List (List UInt8 × List UInt8)} (hl : l <:+ s) (hs : s.length ≤ 900) (hv : IsV d vs) (ho : okVs vs) (hn : l.length < n) {x : Int} {l' : List UInt8} {f' m' : Bool} (hp : Rk vs .S l false m x l' f' m') {b : Nat} {S : St} (hr : LRow S b (cellsD (rkL s l d false m)))
    (K : V → St → Prop) (hK : ∀ S', LRow S' b (cellsD (rkL s l' d f' m')) → K (.w (.c (.int .i64 x))) S') : goC (En X) 23 [.c (.ptr b 0)] S K := by
  refine goC_body hX (kp23 X) (fn23 X) rfl (by kernel_rfl) ?_
  have hres : Tryd.f23.results.toList = [.tmp 2] := rfl
  have hd := isV_plain hv
  cases hp with
  | @sum _ _ a0 l1 f1 m1 _ _ _ _ hU hPL =>
    obtain ⟨S2, hc, r2, n2, f2⟩ := callR_R hS hl hs hv ho hn hU hr
    simp only [zEV, Nat.reduceShiftRight, Nat.reduceMod, Nat.reduceEqDiff, Nat.reduceAdd, ↓reduceIte, reduceCtorEq]
    refine go_call _ _ _ _ _ _ (ws := [.c (.ptr b 0)]) rfl (by simp only [zEA, Nat.reduceShiftRight, Nat.reduceMod, Nat.reduceEqDiff, Nat.reduceAdd, ↓reduceIte, reduceCtorEq, argsOf_cons, argsOf_nil]) ?_
    refine goC_of hc ?_
    have hle1 := suf_len hU.suf
    simp only [zEV, Nat.reduceShiftRight, Nat.reduceMod, Nat.reduceEqDiff, Nat.reduceAdd, ↓reduceIte, reduceCtorEq]
    refine go_loop (goL_inv (fun n' a' S' => ∃ lc fc mc ac, n' = lc.length ∧ lc.length < n ∧ lc <:+ s ∧ inR ac ∧ Rk vs (.SL ac) lc fc mc x l' f' m' ∧ Has a' 0 (vc (.ptr b 0)) ∧ Has a' 3 (vc (.int .i64 ac)) ∧ LRow S' b (cellsD (rkL s lc d fc mc))) (n := l1.length)
      ⟨l1, f1, m1, a0, rfl, by omega, (hU.suf).trans hl, hU.in trivial, hPL, ⟨rfl, rfl⟩, ⟨rfl, rfl⟩, r2⟩ ?_)
    rintro n' a' S3 ⟨lc, fc, mc, ac, rfl, hlc, hsuf, hin, hq, ⟨g0, k0⟩, ⟨g3, k3⟩, r3⟩
    have hqs := List.IsSuffix.trans (dropBl_suf lc) hsuf
    have hidem := dropBl_idem lc
    cases hq with
    | sbad =>
      simp only [zEV, Nat.reduceShiftRight, Nat.reduceMod, Nat.reduceEqDiff, Nat.reduceAdd, ↓reduceIte, reduceCtorEq, g0, k0, g3, k3]
      obtain ⟨T1, hc_T1, q1, n_T1, f_T1⟩ := callR_eatX h24 hsuf hs hd r3 (p := [43]) (by decide)
      refine go_call _ _ _ _ _ _ (ws := [.c (.ptr b 0), .c (.str (Str.ofL [43]))]) rfl (by simp only [zEV, Nat.reduceShiftRight, Nat.reduceMod, Nat.reduceEqDiff, Nat.reduceAdd, ↓reduceIte, reduceCtorEq, g0, k0, g3, k3, argsOf_cons, argsOf_nil, lit_c43]) ?_
      refine goC_of hc_T1 ?_
      simp only [zEV, Nat.reduceShiftRight, Nat.reduceMod, Nat.reduceEqDiff, Nat.reduceAdd, ↓reduceIte, reduceCtorEq, g0, k0, g3, k3]
      obtain ⟨T2, hc_T2, q2, n_T2, f_T2⟩ := callR_eatX h24 hqs hs hd q1 (p := [45]) (by decide)
      refine go_call _ _ _ _ _ _ (ws := [.c (.ptr b 0), .c (.str (Str.ofL [45]))]) rfl (by simp only [zEV, Nat.reduceShiftRight, Nat.reduceMod, Nat.reduceEqDiff, Nat.reduceAdd, ↓reduceIte, reduceCtorEq, g0, k0, g3, k3, argsOf_cons, argsOf_nil, lit_c45]) ?_
      refine goC_of hc_T2 ?_
      rw [hidem] at q2
      simp only [zEV, Nat.reduceShiftRight, Nat.reduceMod, Nat.reduceEqDiff, Nat.reduceAdd, ↓reduceIte, reduceCtorEq, g0, k0, g3, k3, hres]
      exact hK _ q2
    | send h1 =>
      have hpp : pre (dropBl lc) [43] = false ∧ pre (dropBl lc) [45] = false ∧ (tk sgS lc).2 = dropBl lc := by
        rcases tkS_cases lc with ⟨e0, e1⟩ | ⟨e0, e1, e2⟩ | ⟨e0, e1, e2⟩
        · rw [e1] at h1; cases h1
        · rw [e2] at h1; cases h1
        · exact ⟨e0, e1, by rw [e2]⟩
      obtain ⟨p1, p2, hl2⟩ := hpp
      rw [hl2] at hK
      simp only [zEV, Nat.reduceShiftRight, Nat.reduceMod, Nat.reduceEqDiff, Nat.reduceAdd, ↓reduceIte, reduceCtorEq, g0, k0, g3, k3]
      obtain ⟨T1, hc_T1, q1, n_T1, f_T1⟩ := callR_eatF h24 hsuf hs hd r3 (p := [43]) (by decide) p1
      refine go_call _ _ _ _ _ _ (ws := [.c (.ptr b 0), .c (.str (Str.ofL [43]))]) rfl (by simp only [zEV, Nat.reduceShiftRight, Nat.reduceMod, Nat.reduceEqDiff, Nat.reduceAdd, ↓reduceIte, reduceCtorEq, g0, k0, g3, k3, argsOf_cons, argsOf_nil, lit_c43]) ?_
      refine goC_of hc_T1 ?_
      simp only [zEV, Nat.reduceShiftRight, Nat.reduceMod, Nat.reduceEqDiff, Nat.reduceAdd, ↓reduceIte, reduceCtorEq, g0, k0, g3, k3]
      obtain ⟨T2, hc_T2, q2, n_T2, f_T2⟩ := callR_eatF h24 hqs hs hd q1 (p := [45]) (by decide) (by rw [hidem]; exact p2)
      refine go_call _ _ _ _ _ _ (ws := [.c (.ptr b 0), .c (.str (Str.ofL [45]))]) rfl (by simp only [zEV, Nat.reduceShiftRight, Nat.reduceMod, Nat.reduceEqDiff, Nat.reduceAdd, ↓reduceIte, reduceCtorEq, g0, k0, g3, k3, argsOf_cons, argsOf_nil, lit_c45]) ?_
      refine goC_of hc_T2 ?_
      rw [hidem] at q2
      simp only [zEV, Nat.reduceShiftRight, Nat.reduceMod, Nat.reduceEqDiff, Nat.reduceAdd, ↓reduceIte, reduceCtorEq, g0, k0, g3, k3, hres]
      exact hK _ q2
    | @smore _ _ _ u l2 f2 m2 _ _ _ _ h1 hU2 hPL2 =>
      have hlt := tk_lt h1
      have hle2 := suf_len hU2.suf
      have hui := hU2.in trivial
      rcases tkS_cases lc with ⟨p1, ht⟩ | ⟨p1, p2, ht⟩ | ⟨p1, p2, ht⟩
      · rw [ht] at hU2 hPL2 hlt hle2
        simp only [zEV, Nat.reduceShiftRight, Nat.reduceMod, Nat.reduceEqDiff, Nat.reduceAdd, ↓reduceIte, reduceCtorEq, g0, k0, g3, k3]
        obtain ⟨T1, hc_T1, q1, n_T1, f_T1⟩ := callR_eatT h24 hsuf hs hd r3 (p := [43]) (by decide) p1
        refine go_call _ _ _ _ _ _ (ws := [.c (.ptr b 0), .c (.str (Str.ofL [43]))]) rfl (by simp only [zEV, Nat.reduceShiftRight, Nat.reduceMod, Nat.reduceEqDiff, Nat.reduceAdd, ↓reduceIte, reduceCtorEq, g0, k0, g3, k3, argsOf_cons, argsOf_nil, lit_c43]) ?_
        refine goC_of hc_T1 ?_
        simp only [zEV, Nat.reduceShiftRight, Nat.reduceMod, Nat.reduceEqDiff, Nat.reduceAdd, ↓reduceIte, reduceCtorEq, g0, k0, g3, k3]
        have hsd := suf_drop2 hqs 1
        have hlt2 : ((dropBl lc).drop 1).length < lc.length := hlt
        obtain ⟨S6, hc6, r6, n6, f6⟩ := callR_R hS hsd hs hv ho (by omega) hU2 q1
        refine go_call _ _ _ _ _ _ (ws := [.c (.ptr b 0)]) rfl (by simp only [zEV, Nat.reduceShiftRight, Nat.reduceMod, Nat.reduceEqDiff, Nat.reduceAdd, ↓reduceIte, reduceCtorEq, g0, k0, g3, k3, argsOf_cons, argsOf_nil]) ?_
        refine goC_of hc6 ?_
        simp only [zEV, Nat.reduceShiftRight, Nat.reduceMod, Nat.reduceEqDiff, Nat.reduceAdd, ↓reduceIte, reduceCtorEq, g0, k0, g3, k3]
        obtain ⟨S7, hc7, r7, n7, f7⟩ := callR_op h39 hd hin hui r6
        refine go_call _ _ _ _ _ _ (ws := [.c (.ptr b 0), .c (.int .i64 ac), .c (.int .i64 u)]) rfl (by simp only [zEV, Nat.reduceShiftRight, Nat.reduceMod, Nat.reduceEqDiff, Nat.reduceAdd, ↓reduceIte, reduceCtorEq, g0, k0, g3, k3, argsOf_cons, argsOf_nil]) ?_
        refine goC_of hc7 ?_
        simp only [zEV, Nat.reduceShiftRight, Nat.reduceMod, Nat.reduceEqDiff, Nat.reduceAdd, ↓reduceIte, reduceCtorEq, g0, k0, g3, k3]
        refine ⟨l2.length, ?_, l2, f2, _, _, rfl, ?_, ?_, ?_, hPL2, ⟨?_, ?_⟩, ⟨?_, ?_⟩, r7⟩
        · have : l2.length ≤ ((dropBl lc).drop 1).length := hle2
          omega
        · have : l2.length ≤ ((dropBl lc).drop 1).length := hle2
          omega
        · exact (hU2.suf).trans hsd
        · exact op_in hin
        all_goals first | (simp only [zEA, Nat.reduceShiftRight, Nat.reduceMod, Nat.reduceEqDiff, Nat.reduceAdd, ↓reduceIte, reduceCtorEq, g0, k0, g3, k3]; done) | (simp only [zEV, Nat.reduceShiftRight, Nat.reduceMod, Nat.reduceEqDiff, Nat.reduceAdd, ↓reduceIte, reduceCtorEq, g0, k0, g3, k3]; rfl)
      · rw [ht] at hU2 hPL2 hlt hle2
        simp only [zEV, Nat.reduceShiftRight, Nat.reduceMod, Nat.reduceEqDiff, Nat.reduceAdd, ↓reduceIte, reduceCtorEq, g0, k0, g3, k3]
        obtain ⟨T1, hc_T1, q1, n_T1, f_T1⟩ := callR_eatF h24 hsuf hs hd r3 (p := [43]) (by decide) p1
        refine go_call _ _ _ _ _ _ (ws := [.c (.ptr b 0), .c (.str (Str.ofL [43]))]) rfl (by simp only [zEV, Nat.reduceShiftRight, Nat.reduceMod, Nat.reduceEqDiff, Nat.reduceAdd, ↓reduceIte, reduceCtorEq, g0, k0, g3, k3, argsOf_cons, argsOf_nil, lit_c43]) ?_
        refine goC_of hc_T1 ?_
        simp only [zEV, Nat.reduceShiftRight, Nat.reduceMod, Nat.reduceEqDiff, Nat.reduceAdd, ↓reduceIte, reduceCtorEq, g0, k0, g3, k3]
        obtain ⟨T2, hc_T2, q2, n_T2, f_T2⟩ := callR_eatT h24 hqs hs hd q1 (p := [45]) (by decide) (by rw [hidem]; exact p2)
        refine go_call _ _ _ _ _ _ (ws := [.c (.ptr b 0), .c (.str (Str.ofL [45]))]) rfl (by simp only [zEV, Nat.reduceShiftRight, Nat.reduceMod, Nat.reduceEqDiff, Nat.reduceAdd, ↓reduceIte, reduceCtorEq, g0, k0, g3, k3, argsOf_cons, argsOf_nil, lit_c45]) ?_
        refine goC_of hc_T2 ?_
        rw [hidem] at q2
        simp only [zEV, Nat.reduceShiftRight, Nat.reduceMod, Nat.reduceEqDiff, Nat.reduceAdd, ↓reduceIte, reduceCtorEq, g0, k0, g3, k3]
        have hsd := suf_drop2 hqs 1
        have hlt2 : ((dropBl lc).drop 1).length < lc.length := hlt
        obtain ⟨S6, hc6, r6, n6, f6⟩ := callR_R hS hsd hs hv ho (by omega) hU2 q2
        refine go_call _ _ _ _ _ _ (ws := [.c (.ptr b 0)]) rfl (by simp only [zEV, Nat.reduceShiftRight, Nat.reduceMod, Nat.reduceEqDiff, Nat.reduceAdd, ↓reduceIte, reduceCtorEq, g0, k0, g3, k3, argsOf_cons, argsOf_nil]) ?_
        refine goC_of hc6 ?_
        simp only [zEV, Nat.reduceShiftRight, Nat.reduceMod, Nat.reduceEqDiff, Nat.reduceAdd, ↓reduceIte, reduceCtorEq, g0, k0, g3, k3]
        obtain ⟨S7, hc7, r7, n7, f7⟩ := callR_op h40 hd hin hui r6
        refine go_call _ _ _ _ _ _ (ws := [.c (.ptr b 0), .c (.int .i64 ac), .c (.int .i64 u)]) rfl (by simp only [zEV, Nat.reduceShiftRight, Nat.reduceMod, Nat.reduceEqDiff, Nat.reduceAdd, ↓reduceIte, reduceCtorEq, g0, k0, g3, k3, argsOf_cons, argsOf_nil]) ?_
        refine goC_of hc7 ?_
        simp only [zEV, Nat.reduceShiftRight, Nat.reduceMod, Nat.reduceEqDiff, Nat.reduceAdd, ↓reduceIte, reduceCtorEq, g0, k0, g3, k3]
        refine ⟨l2.length, ?_, l2, f2, _, _, rfl, ?_, ?_, ?_, hPL2, ⟨?_, ?_⟩, ⟨?_, ?_⟩, r7⟩
        · have : l2.length ≤ ((dropBl lc).drop 1).length := hle2
          omega
        · have : l2.length ≤ ((dropBl lc).drop 1).length := hle2
          omega
        · exact (hU2.suf).trans hsd
        · exact op_in hin
        all_goals first | (simp only [zEA, Nat.reduceShiftRight, Nat.reduceMod, Nat.reduceEqDiff, Nat.reduceAdd, ↓reduceIte, reduceCtorEq, g0, k0, g3, k3]; done) | (simp only [zEV, Nat.reduceShiftRight, Nat.reduceMod, Nat.reduceEqDiff, Nat.reduceAdd, ↓reduceIte, reduceCtorEq, g0, k0, g3, k3]; rfl)
      · rw [ht] at h1; exact absurd rfl h1
end Ar

namespace Ar
open Go Go.Proofs Ev Go.Lib Nu
set_option linter.unusedVariables false
set_option linter.unusedSimpArgs false
set_option linter.unnecessarySimpa false
set_option maxRecDepth 100000
theorem exprR13 (X : T Ext) {n : Nat} (hX : (En X).ext.get 13 = none) (hS : (En X).ext.get 23 = some (.me (ofM (RR .S n)) [])) (h24 : (En X).ext.get 24 = some (.me (ofM REat) [])) (h25 : (En X).ext.get 25 = some (.fn (ofG RYes) []))
    {s l : List UInt8} {d : D} {m : Bool} {vs : List (List UInt8 × List UInt8)} (hl : l <:+ s) (hs : s.length ≤ 900) (hv : IsV d vs) (ho : okVs vs) (hn : l.length < n) {x : Int} {l' : List UInt8} {f' m' : Bool} (hp : Rk vs .X l false m x l' f' m') {b : Nat} {S : St} (hr : LRow S b (cellsD (rkL s l d false m)))
    (K : V → St → Prop) (hK : ∀ S', LRow S' b (cellsD (rkL s l' d f' m')) → K (.w (.c (.int .i64 x))) S') : goC (En X) 13 [.c (.ptr b 0)] S K := by
  refine goC_body hX (kp13 X) (fn13 X) rfl (by kernel_rfl) ?_
  have hres : Tryd.f13.results.toList = [.tmp 2] := rfl
  have hd := isV_plain hv
  cases hp with
  | @xbad _ _ a0 l1 _ hU =>
    obtain ⟨S2, hc, r3, n2, f2⟩ := callR_R hS hl hs hv ho hn hU hr
    simp only [zEV, Nat.reduceShiftRight, Nat.reduceMod, Nat.reduceEqDiff, Nat.reduceAdd, ↓reduceIte, reduceCtorEq]
    refine go_call _ _ _ _ _ _ (ws := [.c (.ptr b 0)]) rfl (by simp only [zEA, Nat.reduceShiftRight, Nat.reduceMod, Nat.reduceEqDiff, Nat.reduceAdd, ↓reduceIte, reduceCtorEq, argsOf_cons, argsOf_nil]) ?_
    refine goC_of hc ?_
    have hsuf := (hU.suf).trans hl
    have hqs := List.IsSuffix.trans (dropBl_suf l1) hsuf
    have hidem := dropBl_idem l1
    have hlen1 := suf_len hU.suf
    simp only [zEV, Nat.reduceShiftRight, Nat.reduceMod, Nat.reduceEqDiff, Nat.reduceAdd, ↓reduceIte, reduceCtorEq]
    obtain ⟨T1, hc_T1, q1, n_T1, f_T1⟩ := callR_eatX h24 hsuf hs hd r3 (p := [60, 61]) (by decide)
    refine go_call _ _ _ _ _ _ (ws := [.c (.ptr b 0), .c (.str (Str.ofL [60, 61]))]) rfl (by simp only [zEA, Nat.reduceShiftRight, Nat.reduceMod, Nat.reduceEqDiff, Nat.reduceAdd, ↓reduceIte, reduceCtorEq, argsOf_cons, argsOf_nil, lit_x1]) ?_
    refine goC_of hc_T1 ?_
    simp only [zEV, Nat.reduceShiftRight, Nat.reduceMod, Nat.reduceEqDiff, Nat.reduceAdd, ↓reduceIte, reduceCtorEq]
    obtain ⟨T2, hc_T2, q2, n_T2, f_T2⟩ := callR_eatX h24 hqs hs hd q1 (p := [62, 61]) (by decide)
    refine go_call _ _ _ _ _ _ (ws := [.c (.ptr b 0), .c (.str (Str.ofL [62, 61]))]) rfl (by simp only [zEA, Nat.reduceShiftRight, Nat.reduceMod, Nat.reduceEqDiff, Nat.reduceAdd, ↓reduceIte, reduceCtorEq, argsOf_cons, argsOf_nil, lit_x2]) ?_
    refine goC_of hc_T2 ?_
    rw [hidem] at q2
    simp only [zEV, Nat.reduceShiftRight, Nat.reduceMod, Nat.reduceEqDiff, Nat.reduceAdd, ↓reduceIte, reduceCtorEq]
    obtain ⟨T3, hc_T3, q3, n_T3, f_T3⟩ := callR_eatX h24 hqs hs hd q2 (p := [61, 61]) (by decide)
    refine go_call _ _ _ _ _ _ (ws := [.c (.ptr b 0), .c (.str (Str.ofL [61, 61]))]) rfl (by simp only [zEA, Nat.reduceShiftRight, Nat.reduceMod, Nat.reduceEqDiff, Nat.reduceAdd, ↓reduceIte, reduceCtorEq, argsOf_cons, argsOf_nil, lit_x3]) ?_
    refine goC_of hc_T3 ?_
    rw [hidem] at q3
    simp only [zEV, Nat.reduceShiftRight, Nat.reduceMod, Nat.reduceEqDiff, Nat.reduceAdd, ↓reduceIte, reduceCtorEq]
    obtain ⟨T4, hc_T4, q4, n_T4, f_T4⟩ := callR_eatX h24 hqs hs hd q3 (p := [33, 61]) (by decide)
    refine go_call _ _ _ _ _ _ (ws := [.c (.ptr b 0), .c (.str (Str.ofL [33, 61]))]) rfl (by simp only [zEA, Nat.reduceShiftRight, Nat.reduceMod, Nat.reduceEqDiff, Nat.reduceAdd, ↓reduceIte, reduceCtorEq, argsOf_cons, argsOf_nil, lit_x4]) ?_
    refine goC_of hc_T4 ?_
    rw [hidem] at q4
    simp only [zEV, Nat.reduceShiftRight, Nat.reduceMod, Nat.reduceEqDiff, Nat.reduceAdd, ↓reduceIte, reduceCtorEq]
    obtain ⟨T5, hc_T5, q5, n_T5, f_T5⟩ := callR_eatX h24 hqs hs hd q4 (p := [60]) (by decide)
    refine go_call _ _ _ _ _ _ (ws := [.c (.ptr b 0), .c (.str (Str.ofL [60]))]) rfl (by simp only [zEA, Nat.reduceShiftRight, Nat.reduceMod, Nat.reduceEqDiff, Nat.reduceAdd, ↓reduceIte, reduceCtorEq, argsOf_cons, argsOf_nil, lit_x5]) ?_
    refine goC_of hc_T5 ?_
    rw [hidem] at q5
    simp only [zEV, Nat.reduceShiftRight, Nat.reduceMod, Nat.reduceEqDiff, Nat.reduceAdd, ↓reduceIte, reduceCtorEq]
    obtain ⟨T6, hc_T6, q6, n_T6, f_T6⟩ := callR_eatX h24 hqs hs hd q5 (p := [62]) (by decide)
    refine go_call _ _ _ _ _ _ (ws := [.c (.ptr b 0), .c (.str (Str.ofL [62]))]) rfl (by simp only [zEA, Nat.reduceShiftRight, Nat.reduceMod, Nat.reduceEqDiff, Nat.reduceAdd, ↓reduceIte, reduceCtorEq, argsOf_cons, argsOf_nil, lit_x6]) ?_
    refine goC_of hc_T6 ?_
    rw [hidem] at q6
    simp only [zEV, Nat.reduceShiftRight, Nat.reduceMod, Nat.reduceEqDiff, Nat.reduceAdd, ↓reduceIte, reduceCtorEq, hres]
    exact hK _ q6
  | @expr _ _ a0 l1 _ hU h1 =>
    obtain ⟨S2, hc, r3, n2, f2⟩ := callR_R hS hl hs hv ho hn hU hr
    simp only [zEV, Nat.reduceShiftRight, Nat.reduceMod, Nat.reduceEqDiff, Nat.reduceAdd, ↓reduceIte, reduceCtorEq]
    refine go_call _ _ _ _ _ _ (ws := [.c (.ptr b 0)]) rfl (by simp only [zEA, Nat.reduceShiftRight, Nat.reduceMod, Nat.reduceEqDiff, Nat.reduceAdd, ↓reduceIte, reduceCtorEq, argsOf_cons, argsOf_nil]) ?_
    refine goC_of hc ?_
    have hsuf := (hU.suf).trans hl
    have hqs := List.IsSuffix.trans (dropBl_suf l1) hsuf
    have hidem := dropBl_idem l1
    have hlen1 := suf_len hU.suf
    have hpp : pre (dropBl l1) [60, 61] = false ∧ pre (dropBl l1) [62, 61] = false ∧ pre (dropBl l1) [61, 61] = false ∧ pre (dropBl l1) [33, 61] = false ∧ pre (dropBl l1) [60] = false ∧ pre (dropBl l1) [62] = false ∧ (tk sgX l1).2 = dropBl l1 := by
      rcases tkX_cases l1 with ⟨e0, e1⟩ | ⟨e0, e1, e2⟩ | ⟨e0, e1, e2, e3⟩ | ⟨e0, e1, e2, e3, e4⟩ | ⟨e0, e1, e2, e3, e4, e5⟩ | ⟨e0, e1, e2, e3, e4, e5, e6⟩ | ⟨e0, e1, e2, e3, e4, e5, e6⟩
      · rw [e1] at h1; cases h1
      · rw [e2] at h1; cases h1
      · rw [e3] at h1; cases h1
      · rw [e4] at h1; cases h1
      · rw [e5] at h1; cases h1
      · rw [e6] at h1; cases h1
      · exact ⟨e0, e1, e2, e3, e4, e5, by rw [e6]⟩
    obtain ⟨p1, p2, p3, p4, p5, p6, hl2⟩ := hpp
    rw [hl2] at hK
    simp only [zEV, Nat.reduceShiftRight, Nat.reduceMod, Nat.reduceEqDiff, Nat.reduceAdd, ↓reduceIte, reduceCtorEq]
    obtain ⟨T1, hc_T1, q1, n_T1, f_T1⟩ := callR_eatF h24 hsuf hs hd r3 (p := [60, 61]) (by decide) p1
    refine go_call _ _ _ _ _ _ (ws := [.c (.ptr b 0), .c (.str (Str.ofL [60, 61]))]) rfl (by simp only [zEA, Nat.reduceShiftRight, Nat.reduceMod, Nat.reduceEqDiff, Nat.reduceAdd, ↓reduceIte, reduceCtorEq, argsOf_cons, argsOf_nil, lit_x1]) ?_
    refine goC_of hc_T1 ?_
    simp only [zEV, Nat.reduceShiftRight, Nat.reduceMod, Nat.reduceEqDiff, Nat.reduceAdd, ↓reduceIte, reduceCtorEq]
    obtain ⟨T2, hc_T2, q2, n_T2, f_T2⟩ := callR_eatF h24 hqs hs hd q1 (p := [62, 61]) (by decide) (by rw [hidem]; exact p2)
    refine go_call _ _ _ _ _ _ (ws := [.c (.ptr b 0), .c (.str (Str.ofL [62, 61]))]) rfl (by simp only [zEA, Nat.reduceShiftRight, Nat.reduceMod, Nat.reduceEqDiff, Nat.reduceAdd, ↓reduceIte, reduceCtorEq, argsOf_cons, argsOf_nil, lit_x2]) ?_
    refine goC_of hc_T2 ?_
    rw [hidem] at q2
    simp only [zEV, Nat.reduceShiftRight, Nat.reduceMod, Nat.reduceEqDiff, Nat.reduceAdd, ↓reduceIte, reduceCtorEq]
    obtain ⟨T3, hc_T3, q3, n_T3, f_T3⟩ := callR_eatF h24 hqs hs hd q2 (p := [61, 61]) (by decide) (by rw [hidem]; exact p3)
    refine go_call _ _ _ _ _ _ (ws := [.c (.ptr b 0), .c (.str (Str.ofL [61, 61]))]) rfl (by simp only [zEA, Nat.reduceShiftRight, Nat.reduceMod, Nat.reduceEqDiff, Nat.reduceAdd, ↓reduceIte, reduceCtorEq, argsOf_cons, argsOf_nil, lit_x3]) ?_
    refine goC_of hc_T3 ?_
    rw [hidem] at q3
    simp only [zEV, Nat.reduceShiftRight, Nat.reduceMod, Nat.reduceEqDiff, Nat.reduceAdd, ↓reduceIte, reduceCtorEq]
    obtain ⟨T4, hc_T4, q4, n_T4, f_T4⟩ := callR_eatF h24 hqs hs hd q3 (p := [33, 61]) (by decide) (by rw [hidem]; exact p4)
    refine go_call _ _ _ _ _ _ (ws := [.c (.ptr b 0), .c (.str (Str.ofL [33, 61]))]) rfl (by simp only [zEA, Nat.reduceShiftRight, Nat.reduceMod, Nat.reduceEqDiff, Nat.reduceAdd, ↓reduceIte, reduceCtorEq, argsOf_cons, argsOf_nil, lit_x4]) ?_
    refine goC_of hc_T4 ?_
    rw [hidem] at q4
    simp only [zEV, Nat.reduceShiftRight, Nat.reduceMod, Nat.reduceEqDiff, Nat.reduceAdd, ↓reduceIte, reduceCtorEq]
    obtain ⟨T5, hc_T5, q5, n_T5, f_T5⟩ := callR_eatF h24 hqs hs hd q4 (p := [60]) (by decide) (by rw [hidem]; exact p5)
    refine go_call _ _ _ _ _ _ (ws := [.c (.ptr b 0), .c (.str (Str.ofL [60]))]) rfl (by simp only [zEA, Nat.reduceShiftRight, Nat.reduceMod, Nat.reduceEqDiff, Nat.reduceAdd, ↓reduceIte, reduceCtorEq, argsOf_cons, argsOf_nil, lit_x5]) ?_
    refine goC_of hc_T5 ?_
    rw [hidem] at q5
    simp only [zEV, Nat.reduceShiftRight, Nat.reduceMod, Nat.reduceEqDiff, Nat.reduceAdd, ↓reduceIte, reduceCtorEq]
    obtain ⟨T6, hc_T6, q6, n_T6, f_T6⟩ := callR_eatF h24 hqs hs hd q5 (p := [62]) (by decide) (by rw [hidem]; exact p6)
    refine go_call _ _ _ _ _ _ (ws := [.c (.ptr b 0), .c (.str (Str.ofL [62]))]) rfl (by simp only [zEA, Nat.reduceShiftRight, Nat.reduceMod, Nat.reduceEqDiff, Nat.reduceAdd, ↓reduceIte, reduceCtorEq, argsOf_cons, argsOf_nil, lit_x6]) ?_
    refine goC_of hc_T6 ?_
    rw [hidem] at q6
    simp only [zEV, Nat.reduceShiftRight, Nat.reduceMod, Nat.reduceEqDiff, Nat.reduceAdd, ↓reduceIte, reduceCtorEq, hres]
    exact hK _ q6
  | @cmp _ _ a0 l1 _ u _ _ _ hU h1 hU2 =>
    obtain ⟨S2, hc, r3, n2, f2⟩ := callR_R hS hl hs hv ho hn hU hr
    simp only [zEV, Nat.reduceShiftRight, Nat.reduceMod, Nat.reduceEqDiff, Nat.reduceAdd, ↓reduceIte, reduceCtorEq]
    refine go_call _ _ _ _ _ _ (ws := [.c (.ptr b 0)]) rfl (by simp only [zEA, Nat.reduceShiftRight, Nat.reduceMod, Nat.reduceEqDiff, Nat.reduceAdd, ↓reduceIte, reduceCtorEq, argsOf_cons, argsOf_nil]) ?_
    refine goC_of hc ?_
    have hsuf := (hU.suf).trans hl
    have hqs := List.IsSuffix.trans (dropBl_suf l1) hsuf
    have hidem := dropBl_idem l1
    have hlen1 := suf_len hU.suf
    have hlt := tk_lt h1
    rcases tkX_cases l1 with ⟨p1, ht⟩ | ⟨p1, p2, ht⟩ | ⟨p1, p2, p3, ht⟩ | ⟨p1, p2, p3, p4, ht⟩ | ⟨p1, p2, p3, p4, p5, ht⟩ | ⟨p1, p2, p3, p4, p5, p6, ht⟩ | ⟨p1, p2, p3, p4, p5, p6, ht⟩
    · rw [ht] at hU2 hlt hK
      have hop : (opR [60, 61] a0 u).1 = yesF (decide (a0 ≤ u)) := rfl
      rw [hop] at hK
      simp only [zEV, Nat.reduceShiftRight, Nat.reduceMod, Nat.reduceEqDiff, Nat.reduceAdd, ↓reduceIte, reduceCtorEq]
      obtain ⟨T1, hc_T1, q1, n_T1, f_T1⟩ := callR_eatT h24 hsuf hs hd r3 (p := [60, 61]) (by decide) p1
      refine go_call _ _ _ _ _ _ (ws := [.c (.ptr b 0), .c (.str (Str.ofL [60, 61]))]) rfl (by simp only [zEA, Nat.reduceShiftRight, Nat.reduceMod, Nat.reduceEqDiff, Nat.reduceAdd, ↓reduceIte, reduceCtorEq, argsOf_cons, argsOf_nil, lit_x1]) ?_
      refine goC_of hc_T1 ?_
      simp only [zEV, Nat.reduceShiftRight, Nat.reduceMod, Nat.reduceEqDiff, Nat.reduceAdd, ↓reduceIte, reduceCtorEq]
      have hsd := suf_drop2 hqs 2
      have hlt2 : ((dropBl l1).drop 2).length < l1.length := hlt
      obtain ⟨S8, hc8, r8, n8, f8⟩ := callR_R hS hsd hs hv ho (by omega) hU2 q1
      refine go_call _ _ _ _ _ _ (ws := [.c (.ptr b 0)]) rfl (by simp only [zEA, Nat.reduceShiftRight, Nat.reduceMod, Nat.reduceEqDiff, Nat.reduceAdd, ↓reduceIte, reduceCtorEq, argsOf_cons, argsOf_nil]) ?_
      refine goC_of hc8 ?_
      simp only [zEV, Nat.reduceShiftRight, Nat.reduceMod, Nat.reduceEqDiff, Nat.reduceAdd, ↓reduceIte, reduceCtorEq]
      refine go_call _ _ _ _ _ _ (ws := [.c (.bool (decide (a0 ≤ u)))]) rfl (by simp only [zEA, Nat.reduceShiftRight, Nat.reduceMod, Nat.reduceEqDiff, Nat.reduceAdd, ↓reduceIte, reduceCtorEq, argsOf_cons, argsOf_nil]) ?_
      refine goC_of (callR_yes h25 _ _) ?_
      simp only [zEV, Nat.reduceShiftRight, Nat.reduceMod, Nat.reduceEqDiff, Nat.reduceAdd, ↓reduceIte, reduceCtorEq, hres]
      exact hK _ r8
    · rw [ht] at hU2 hlt hK
      have hop : (opR [62, 61] a0 u).1 = yesF (decide (u ≤ a0)) := rfl
      rw [hop] at hK
      simp only [zEV, Nat.reduceShiftRight, Nat.reduceMod, Nat.reduceEqDiff, Nat.reduceAdd, ↓reduceIte, reduceCtorEq]
      obtain ⟨T1, hc_T1, q1, n_T1, f_T1⟩ := callR_eatF h24 hsuf hs hd r3 (p := [60, 61]) (by decide) p1
      refine go_call _ _ _ _ _ _ (ws := [.c (.ptr b 0), .c (.str (Str.ofL [60, 61]))]) rfl (by simp only [zEA, Nat.reduceShiftRight, Nat.reduceMod, Nat.reduceEqDiff, Nat.reduceAdd, ↓reduceIte, reduceCtorEq, argsOf_cons, argsOf_nil, lit_x1]) ?_
      refine goC_of hc_T1 ?_
      simp only [zEV, Nat.reduceShiftRight, Nat.reduceMod, Nat.reduceEqDiff, Nat.reduceAdd, ↓reduceIte, reduceCtorEq]
      obtain ⟨T2, hc_T2, q2, n_T2, f_T2⟩ := callR_eatT h24 hqs hs hd q1 (p := [62, 61]) (by decide) (by rw [hidem]; exact p2)
      refine go_call _ _ _ _ _ _ (ws := [.c (.ptr b 0), .c (.str (Str.ofL [62, 61]))]) rfl (by simp only [zEA, Nat.reduceShiftRight, Nat.reduceMod, Nat.reduceEqDiff, Nat.reduceAdd, ↓reduceIte, reduceCtorEq, argsOf_cons, argsOf_nil, lit_x2]) ?_
      refine goC_of hc_T2 ?_
      rw [hidem] at q2
      simp only [zEV, Nat.reduceShiftRight, Nat.reduceMod, Nat.reduceEqDiff, Nat.reduceAdd, ↓reduceIte, reduceCtorEq]
      have hsd := suf_drop2 hqs 2
      have hlt2 : ((dropBl l1).drop 2).length < l1.length := hlt
      obtain ⟨S8, hc8, r8, n8, f8⟩ := callR_R hS hsd hs hv ho (by omega) hU2 q2
      refine go_call _ _ _ _ _ _ (ws := [.c (.ptr b 0)]) rfl (by simp only [zEA, Nat.reduceShiftRight, Nat.reduceMod, Nat.reduceEqDiff, Nat.reduceAdd, ↓reduceIte, reduceCtorEq, argsOf_cons, argsOf_nil]) ?_
      refine goC_of hc8 ?_
      simp only [zEV, Nat.reduceShiftRight, Nat.reduceMod, Nat.reduceEqDiff, Nat.reduceAdd, ↓reduceIte, reduceCtorEq]
      refine go_call _ _ _ _ _ _ (ws := [.c (.bool (decide (u ≤ a0)))]) rfl (by simp only [zEA, Nat.reduceShiftRight, Nat.reduceMod, Nat.reduceEqDiff, Nat.reduceAdd, ↓reduceIte, reduceCtorEq, argsOf_cons, argsOf_nil]) ?_
      refine goC_of (callR_yes h25 _ _) ?_
      simp only [zEV, Nat.reduceShiftRight, Nat.reduceMod, Nat.reduceEqDiff, Nat.reduceAdd, ↓reduceIte, reduceCtorEq, hres]
      exact hK _ r8
    · rw [ht] at hU2 hlt hK
      have hop : (opR [61, 61] a0 u).1 = yesF (decide (a0 = u)) := rfl
      rw [hop] at hK
      simp only [zEV, Nat.reduceShiftRight, Nat.reduceMod, Nat.reduceEqDiff, Nat.reduceAdd, ↓reduceIte, reduceCtorEq]
      obtain ⟨T1, hc_T1, q1, n_T1, f_T1⟩ := callR_eatF h24 hsuf hs hd r3 (p := [60, 61]) (by decide) p1
      refine go_call _ _ _ _ _ _ (ws := [.c (.ptr b 0), .c (.str (Str.ofL [60, 61]))]) rfl (by simp only [zEA, Nat.reduceShiftRight, Nat.reduceMod, Nat.reduceEqDiff, Nat.reduceAdd, ↓reduceIte, reduceCtorEq, argsOf_cons, argsOf_nil, lit_x1]) ?_
      refine goC_of hc_T1 ?_
      simp only [zEV, Nat.reduceShiftRight, Nat.reduceMod, Nat.reduceEqDiff, Nat.reduceAdd, ↓reduceIte, reduceCtorEq]
      obtain ⟨T2, hc_T2, q2, n_T2, f_T2⟩ := callR_eatF h24 hqs hs hd q1 (p := [62, 61]) (by decide) (by rw [hidem]; exact p2)
      refine go_call _ _ _ _ _ _ (ws := [.c (.ptr b 0), .c (.str (Str.ofL [62, 61]))]) rfl (by simp only [zEA, Nat.reduceShiftRight, Nat.reduceMod, Nat.reduceEqDiff, Nat.reduceAdd, ↓reduceIte, reduceCtorEq, argsOf_cons, argsOf_nil, lit_x2]) ?_
      refine goC_of hc_T2 ?_
      rw [hidem] at q2
      simp only [zEV, Nat.reduceShiftRight, Nat.reduceMod, Nat.reduceEqDiff, Nat.reduceAdd, ↓reduceIte, reduceCtorEq]
      obtain ⟨T3, hc_T3, q3, n_T3, f_T3⟩ := callR_eatT h24 hqs hs hd q2 (p := [61, 61]) (by decide) (by rw [hidem]; exact p3)
      refine go_call _ _ _ _ _ _ (ws := [.c (.ptr b 0), .c (.str (Str.ofL [61, 61]))]) rfl (by simp only [zEA, Nat.reduceShiftRight, Nat.reduceMod, Nat.reduceEqDiff, Nat.reduceAdd, ↓reduceIte, reduceCtorEq, argsOf_cons, argsOf_nil, lit_x3]) ?_
      refine goC_of hc_T3 ?_
      rw [hidem] at q3
      simp only [zEV, Nat.reduceShiftRight, Nat.reduceMod, Nat.reduceEqDiff, Nat.reduceAdd, ↓reduceIte, reduceCtorEq]
      have hsd := suf_drop2 hqs 2
      have hlt2 : ((dropBl l1).drop 2).length < l1.length := hlt
      obtain ⟨S8, hc8, r8, n8, f8⟩ := callR_R hS hsd hs hv ho (by omega) hU2 q3
      refine go_call _ _ _ _ _ _ (ws := [.c (.ptr b 0)]) rfl (by simp only [zEA, Nat.reduceShiftRight, Nat.reduceMod, Nat.reduceEqDiff, Nat.reduceAdd, ↓reduceIte, reduceCtorEq, argsOf_cons, argsOf_nil]) ?_
      refine goC_of hc8 ?_
      simp only [zEV, Nat.reduceShiftRight, Nat.reduceMod, Nat.reduceEqDiff, Nat.reduceAdd, ↓reduceIte, reduceCtorEq]
      refine go_call _ _ _ _ _ _ (ws := [.c (.bool (decide (a0 = u)))]) rfl (by simp only [zEA, Nat.reduceShiftRight, Nat.reduceMod, Nat.reduceEqDiff, Nat.reduceAdd, ↓reduceIte, reduceCtorEq, argsOf_cons, argsOf_nil]) ?_
      refine goC_of (callR_yes h25 _ _) ?_
      simp only [zEV, Nat.reduceShiftRight, Nat.reduceMod, Nat.reduceEqDiff, Nat.reduceAdd, ↓reduceIte, reduceCtorEq, hres]
      exact hK _ r8
    · rw [ht] at hU2 hlt hK
      have hop : (opR [33, 61] a0 u).1 = yesF (!decide (a0 = u)) := rfl
      rw [hop] at hK
      simp only [zEV, Nat.reduceShiftRight, Nat.reduceMod, Nat.reduceEqDiff, Nat.reduceAdd, ↓reduceIte, reduceCtorEq]
      obtain ⟨T1, hc_T1, q1, n_T1, f_T1⟩ := callR_eatF h24 hsuf hs hd r3 (p := [60, 61]) (by decide) p1
      refine go_call _ _ _ _ _ _ (ws := [.c (.ptr b 0), .c (.str (Str.ofL [60, 61]))]) rfl (by simp only [zEA, Nat.reduceShiftRight, Nat.reduceMod, Nat.reduceEqDiff, Nat.reduceAdd, ↓reduceIte, reduceCtorEq, argsOf_cons, argsOf_nil, lit_x1]) ?_
      refine goC_of hc_T1 ?_
      simp only [zEV, Nat.reduceShiftRight, Nat.reduceMod, Nat.reduceEqDiff, Nat.reduceAdd, ↓reduceIte, reduceCtorEq]
      obtain ⟨T2, hc_T2, q2, n_T2, f_T2⟩ := callR_eatF h24 hqs hs hd q1 (p := [62, 61]) (by decide) (by rw [hidem]; exact p2)
      refine go_call _ _ _ _ _ _ (ws := [.c (.ptr b 0), .c (.str (Str.ofL [62, 61]))]) rfl (by simp only [zEA, Nat.reduceShiftRight, Nat.reduceMod, Nat.reduceEqDiff, Nat.reduceAdd, ↓reduceIte, reduceCtorEq, argsOf_cons, argsOf_nil, lit_x2]) ?_
      refine goC_of hc_T2 ?_
      rw [hidem] at q2
      simp only [zEV, Nat.reduceShiftRight, Nat.reduceMod, Nat.reduceEqDiff, Nat.reduceAdd, ↓reduceIte, reduceCtorEq]
      obtain ⟨T3, hc_T3, q3, n_T3, f_T3⟩ := callR_eatF h24 hqs hs hd q2 (p := [61, 61]) (by decide) (by rw [hidem]; exact p3)
      refine go_call _ _ _ _ _ _ (ws := [.c (.ptr b 0), .c (.str (Str.ofL [61, 61]))]) rfl (by simp only [zEA, Nat.reduceShiftRight, Nat.reduceMod, Nat.reduceEqDiff, Nat.reduceAdd, ↓reduceIte, reduceCtorEq, argsOf_cons, argsOf_nil, lit_x3]) ?_
      refine goC_of hc_T3 ?_
      rw [hidem] at q3
      simp only [zEV, Nat.reduceShiftRight, Nat.reduceMod, Nat.reduceEqDiff, Nat.reduceAdd, ↓reduceIte, reduceCtorEq]
      obtain ⟨T4, hc_T4, q4, n_T4, f_T4⟩ := callR_eatT h24 hqs hs hd q3 (p := [33, 61]) (by decide) (by rw [hidem]; exact p4)
      refine go_call _ _ _ _ _ _ (ws := [.c (.ptr b 0), .c (.str (Str.ofL [33, 61]))]) rfl (by simp only [zEA, Nat.reduceShiftRight, Nat.reduceMod, Nat.reduceEqDiff, Nat.reduceAdd, ↓reduceIte, reduceCtorEq, argsOf_cons, argsOf_nil, lit_x4]) ?_
      refine goC_of hc_T4 ?_
      rw [hidem] at q4
      simp only [zEV, Nat.reduceShiftRight, Nat.reduceMod, Nat.reduceEqDiff, Nat.reduceAdd, ↓reduceIte, reduceCtorEq]
      have hsd := suf_drop2 hqs 2
      have hlt2 : ((dropBl l1).drop 2).length < l1.length := hlt
      obtain ⟨S8, hc8, r8, n8, f8⟩ := callR_R hS hsd hs hv ho (by omega) hU2 q4
      refine go_call _ _ _ _ _ _ (ws := [.c (.ptr b 0)]) rfl (by simp only [zEA, Nat.reduceShiftRight, Nat.reduceMod, Nat.reduceEqDiff, Nat.reduceAdd, ↓reduceIte, reduceCtorEq, argsOf_cons, argsOf_nil]) ?_
      refine goC_of hc8 ?_
      simp only [zEV, Nat.reduceShiftRight, Nat.reduceMod, Nat.reduceEqDiff, Nat.reduceAdd, ↓reduceIte, reduceCtorEq]
      refine go_call _ _ _ _ _ _ (ws := [.c (.bool (!decide (a0 = u)))]) rfl (by simp only [zEA, Nat.reduceShiftRight, Nat.reduceMod, Nat.reduceEqDiff, Nat.reduceAdd, ↓reduceIte, reduceCtorEq, argsOf_cons, argsOf_nil]) ?_
      refine goC_of (callR_yes h25 _ _) ?_
      simp only [zEV, Nat.reduceShiftRight, Nat.reduceMod, Nat.reduceEqDiff, Nat.reduceAdd, ↓reduceIte, reduceCtorEq, hres]
      exact hK _ r8
    · rw [ht] at hU2 hlt hK
      have hop : (opR [60] a0 u).1 = yesF (decide (a0 < u)) := rfl
      rw [hop] at hK
      simp only [zEV, Nat.reduceShiftRight, Nat.reduceMod, Nat.reduceEqDiff, Nat.reduceAdd, ↓reduceIte, reduceCtorEq]
      obtain ⟨T1, hc_T1, q1, n_T1, f_T1⟩ := callR_eatF h24 hsuf hs hd r3 (p := [60, 61]) (by decide) p1
      refine go_call _ _ _ _ _ _ (ws := [.c (.ptr b 0), .c (.str (Str.ofL [60, 61]))]) rfl (by simp only [zEA, Nat.reduceShiftRight, Nat.reduceMod, Nat.reduceEqDiff, Nat.reduceAdd, ↓reduceIte, reduceCtorEq, argsOf_cons, argsOf_nil, lit_x1]) ?_
      refine goC_of hc_T1 ?_
      simp only [zEV, Nat.reduceShiftRight, Nat.reduceMod, Nat.reduceEqDiff, Nat.reduceAdd, ↓reduceIte, reduceCtorEq]
      obtain ⟨T2, hc_T2, q2, n_T2, f_T2⟩ := callR_eatF h24 hqs hs hd q1 (p := [62, 61]) (by decide) (by rw [hidem]; exact p2)
      refine go_call _ _ _ _ _ _ (ws := [.c (.ptr b 0), .c (.str (Str.ofL [62, 61]))]) rfl (by simp only [zEA, Nat.reduceShiftRight, Nat.reduceMod, Nat.reduceEqDiff, Nat.reduceAdd, ↓reduceIte, reduceCtorEq, argsOf_cons, argsOf_nil, lit_x2]) ?_
      refine goC_of hc_T2 ?_
      rw [hidem] at q2
      simp only [zEV, Nat.reduceShiftRight, Nat.reduceMod, Nat.reduceEqDiff, Nat.reduceAdd, ↓reduceIte, reduceCtorEq]
      obtain ⟨T3, hc_T3, q3, n_T3, f_T3⟩ := callR_eatF h24 hqs hs hd q2 (p := [61, 61]) (by decide) (by rw [hidem]; exact p3)
      refine go_call _ _ _ _ _ _ (ws := [.c (.ptr b 0), .c (.str (Str.ofL [61, 61]))]) rfl (by simp only [zEA, Nat.reduceShiftRight, Nat.reduceMod, Nat.reduceEqDiff, Nat.reduceAdd, ↓reduceIte, reduceCtorEq, argsOf_cons, argsOf_nil, lit_x3]) ?_
      refine goC_of hc_T3 ?_
      rw [hidem] at q3
      simp only [zEV, Nat.reduceShiftRight, Nat.reduceMod, Nat.reduceEqDiff, Nat.reduceAdd, ↓reduceIte, reduceCtorEq]
      obtain ⟨T4, hc_T4, q4, n_T4, f_T4⟩ := callR_eatF h24 hqs hs hd q3 (p := [33, 61]) (by decide) (by rw [hidem]; exact p4)
      refine go_call _ _ _ _ _ _ (ws := [.c (.ptr b 0), .c (.str (Str.ofL [33, 61]))]) rfl (by simp only [zEA, Nat.reduceShiftRight, Nat.reduceMod, Nat.reduceEqDiff, Nat.reduceAdd, ↓reduceIte, reduceCtorEq, argsOf_cons, argsOf_nil, lit_x4]) ?_
      refine goC_of hc_T4 ?_
      rw [hidem] at q4
      simp only [zEV, Nat.reduceShiftRight, Nat.reduceMod, Nat.reduceEqDiff, Nat.reduceAdd, ↓reduceIte, reduceCtorEq]
      obtain ⟨T5, hc_T5, q5, n_T5, f_T5⟩ := callR_eatT h24 hqs hs hd q4 (p := [60]) (by decide) (by rw [hidem]; exact p5)
      refine go_call _ _ _ _ _ _ (ws := [.c (.ptr b 0), .c (.str (Str.ofL [60]))]) rfl (by simp only [zEA, Nat.reduceShiftRight, Nat.reduceMod, Nat.reduceEqDiff, Nat.reduceAdd, ↓reduceIte, reduceCtorEq, argsOf_cons, argsOf_nil, lit_x5]) ?_
      refine goC_of hc_T5 ?_
      rw [hidem] at q5
      simp only [zEV, Nat.reduceShiftRight, Nat.reduceMod, Nat.reduceEqDiff, Nat.reduceAdd, ↓reduceIte, reduceCtorEq]
      have hsd := suf_drop2 hqs 1
      have hlt2 : ((dropBl l1).drop 1).length < l1.length := hlt
      obtain ⟨S8, hc8, r8, n8, f8⟩ := callR_R hS hsd hs hv ho (by omega) hU2 q5
      refine go_call _ _ _ _ _ _ (ws := [.c (.ptr b 0)]) rfl (by simp only [zEA, Nat.reduceShiftRight, Nat.reduceMod, Nat.reduceEqDiff, Nat.reduceAdd, ↓reduceIte, reduceCtorEq, argsOf_cons, argsOf_nil]) ?_
      refine goC_of hc8 ?_
      simp only [zEV, Nat.reduceShiftRight, Nat.reduceMod, Nat.reduceEqDiff, Nat.reduceAdd, ↓reduceIte, reduceCtorEq]
      refine go_call _ _ _ _ _ _ (ws := [.c (.bool (decide (a0 < u)))]) rfl (by simp only [zEA, Nat.reduceShiftRight, Nat.reduceMod, Nat.reduceEqDiff, Nat.reduceAdd, ↓reduceIte, reduceCtorEq, argsOf_cons, argsOf_nil]) ?_
      refine goC_of (callR_yes h25 _ _) ?_
      simp only [zEV, Nat.reduceShiftRight, Nat.reduceMod, Nat.reduceEqDiff, Nat.reduceAdd, ↓reduceIte, reduceCtorEq, hres]
      exact hK _ r8
    · rw [ht] at hU2 hlt hK
      have hop : (opR [62] a0 u).1 = yesF (decide (u < a0)) := rfl
      rw [hop] at hK
      simp only [zEV, Nat.reduceShiftRight, Nat.reduceMod, Nat.reduceEqDiff, Nat.reduceAdd, ↓reduceIte, reduceCtorEq]
      obtain ⟨T1, hc_T1, q1, n_T1, f_T1⟩ := callR_eatF h24 hsuf hs hd r3 (p := [60, 61]) (by decide) p1
      refine go_call _ _ _ _ _ _ (ws := [.c (.ptr b 0), .c (.str (Str.ofL [60, 61]))]) rfl (by simp only [zEA, Nat.reduceShiftRight, Nat.reduceMod, Nat.reduceEqDiff, Nat.reduceAdd, ↓reduceIte, reduceCtorEq, argsOf_cons, argsOf_nil, lit_x1]) ?_
      refine goC_of hc_T1 ?_
      simp only [zEV, Nat.reduceShiftRight, Nat.reduceMod, Nat.reduceEqDiff, Nat.reduceAdd, ↓reduceIte, reduceCtorEq]
      obtain ⟨T2, hc_T2, q2, n_T2, f_T2⟩ := callR_eatF h24 hqs hs hd q1 (p := [62, 61]) (by decide) (by rw [hidem]; exact p2)
      refine go_call _ _ _ _ _ _ (ws := [.c (.ptr b 0), .c (.str (Str.ofL [62, 61]))]) rfl (by simp only [zEA, Nat.reduceShiftRight, Nat.reduceMod, Nat.reduceEqDiff, Nat.reduceAdd, ↓reduceIte, reduceCtorEq, argsOf_cons, argsOf_nil, lit_x2]) ?_
      refine goC_of hc_T2 ?_
      rw [hidem] at q2
      simp only [zEV, Nat.reduceShiftRight, Nat.reduceMod, Nat.reduceEqDiff, Nat.reduceAdd, ↓reduceIte, reduceCtorEq]
      obtain ⟨T3, hc_T3, q3, n_T3, f_T3⟩ := callR_eatF h24 hqs hs hd q2 (p := [61, 61]) (by decide) (by rw [hidem]; exact p3)
      refine go_call _ _ _ _ _ _ (ws := [.c (.ptr b 0), .c (.str (Str.ofL [61, 61]))]) rfl (by simp only [zEA, Nat.reduceShiftRight, Nat.reduceMod, Nat.reduceEqDiff, Nat.reduceAdd, ↓reduceIte, reduceCtorEq, argsOf_cons, argsOf_nil, lit_x3]) ?_
      refine goC_of hc_T3 ?_
      rw [hidem] at q3
      simp only [zEV, Nat.reduceShiftRight, Nat.reduceMod, Nat.reduceEqDiff, Nat.reduceAdd, ↓reduceIte, reduceCtorEq]
      obtain ⟨T4, hc_T4, q4, n_T4, f_T4⟩ := callR_eatF h24 hqs hs hd q3 (p := [33, 61]) (by decide) (by rw [hidem]; exact p4)
      refine go_call _ _ _ _ _ _ (ws := [.c (.ptr b 0), .c (.str (Str.ofL [33, 61]))]) rfl (by simp only [zEA, Nat.reduceShiftRight, Nat.reduceMod, Nat.reduceEqDiff, Nat.reduceAdd, ↓reduceIte, reduceCtorEq, argsOf_cons, argsOf_nil, lit_x4]) ?_
      refine goC_of hc_T4 ?_
      rw [hidem] at q4
      simp only [zEV, Nat.reduceShiftRight, Nat.reduceMod, Nat.reduceEqDiff, Nat.reduceAdd, ↓reduceIte, reduceCtorEq]
      obtain ⟨T5, hc_T5, q5, n_T5, f_T5⟩ := callR_eatF h24 hqs hs hd q4 (p := [60]) (by decide) (by rw [hidem]; exact p5)
      refine go_call _ _ _ _ _ _ (ws := [.c (.ptr b 0), .c (.str (Str.ofL [60]))]) rfl (by simp only [zEA, Nat.reduceShiftRight, Nat.reduceMod, Nat.reduceEqDiff, Nat.reduceAdd, ↓reduceIte, reduceCtorEq, argsOf_cons, argsOf_nil, lit_x5]) ?_
      refine goC_of hc_T5 ?_
      rw [hidem] at q5
      simp only [zEV, Nat.reduceShiftRight, Nat.reduceMod, Nat.reduceEqDiff, Nat.reduceAdd, ↓reduceIte, reduceCtorEq]
      obtain ⟨T6, hc_T6, q6, n_T6, f_T6⟩ := callR_eatT h24 hqs hs hd q5 (p := [62]) (by decide) (by rw [hidem]; exact p6)
      refine go_call _ _ _ _ _ _ (ws := [.c (.ptr b 0), .c (.str (Str.ofL [62]))]) rfl (by simp only [zEA, Nat.reduceShiftRight, Nat.reduceMod, Nat.reduceEqDiff, Nat.reduceAdd, ↓reduceIte, reduceCtorEq, argsOf_cons, argsOf_nil, lit_x6]) ?_
      refine goC_of hc_T6 ?_
      rw [hidem] at q6
      simp only [zEV, Nat.reduceShiftRight, Nat.reduceMod, Nat.reduceEqDiff, Nat.reduceAdd, ↓reduceIte, reduceCtorEq]
      have hsd := suf_drop2 hqs 1
      have hlt2 : ((dropBl l1).drop 1).length < l1.length := hlt
      obtain ⟨S8, hc8, r8, n8, f8⟩ := callR_R hS hsd hs hv ho (by omega) hU2 q6
      refine go_call _ _ _ _ _ _ (ws := [.c (.ptr b 0)]) rfl (by simp only [zEA, Nat.reduceShiftRight, Nat.reduceMod, Nat.reduceEqDiff, Nat.reduceAdd, ↓reduceIte, reduceCtorEq, argsOf_cons, argsOf_nil]) ?_
      refine goC_of hc8 ?_
      simp only [zEV, Nat.reduceShiftRight, Nat.reduceMod, Nat.reduceEqDiff, Nat.reduceAdd, ↓reduceIte, reduceCtorEq]
      refine go_call _ _ _ _ _ _ (ws := [.c (.bool (decide (u < a0)))]) rfl (by simp only [zEA, Nat.reduceShiftRight, Nat.reduceMod, Nat.reduceEqDiff, Nat.reduceAdd, ↓reduceIte, reduceCtorEq, argsOf_cons, argsOf_nil]) ?_
      refine goC_of (callR_yes h25 _ _) ?_
      simp only [zEV, Nat.reduceShiftRight, Nat.reduceMod, Nat.reduceEqDiff, Nat.reduceAdd, ↓reduceIte, reduceCtorEq, hres]
      exact hK _ r8
    · rw [ht] at h1; exact absurd rfl h1
end Ar
