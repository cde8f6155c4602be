import Derived.Test.YtaapmoclinjefaaDoorArV4
import Derived.Test.YtaapmoclinjefaaDoorArO
import Derived.Test.YtaapmoclinjefaaDoorEwL
import Derived.Test.YtaapmoclinjefaaDoorArSh
namespace Ar
open Go Go.Proofs Ev Go.Lib Nu
set_option linter.unusedVariables false
set_option linter.unusedSimpArgs false
set_option linter.unnecessarySimpa false
set_option maxRecDepth 100000
def RRx (k : Rd) (n : Nat) (ds : List D) (ps : List PW) (v : PV × List D) : Prop := ∃ s l d m vs x l' f' m', ds = rkL s l d false m ∧ l <:+ s ∧ s.length ≤ 900 ∧ IsV d vs ∧ okVs vs ∧ l.length = n ∧ ps = [] ∧ Rk vs k l false m x l' f' m' ∧ v = (.w (.c (.int .i64 x)), rkL s l' d f' m')
theorem rrx_u {k : Rd} {n : Nat} {ds : List D} {ps : List PW} {v v' : PV × List D} (h : RRx k n ds ps v) (h' : RRx k n ds ps v') : v' = v := by
  obtain ⟨s, l, d, m, vs, x, l', f', m', rfl, hl, _, hv, _, _, rfl, hp, rfl⟩ := h
  obtain ⟨s2, l2, d2, m2, vs2, x2, l2', f2', m2', h1, hl2, _, hv2, _, _, _, hp2, rfl⟩ := h'
  obtain ⟨rfl, rfl, rfl, _, rfl⟩ := rkL_inj hl hl2 h1
  obtain rfl := isV_u hv hv2
  obtain ⟨rfl, rfl, rfl, rfl⟩ := hp.det hp2
  rfl
theorem r49 (n : Nat) (hU : Ok (49, .me (ofM (RR .U n)) [])) (hX : Ok (13, .me (ofM (RR .X n)) [])) : MeOk Tryd.prog 49 (ofM (RRx .U n)) := by
  refine me_goM (exts := [(49, .me (ofM (RR .U n)) []), (13, .me (ofM (RR .X n)) []), e24, e14, e40r, e25, e66, e67, e68, e69]) (ok1 hU (ok1 hX (ok1 c24 (ok1 c14 (ok1 c40r (ok1 c25 (ok1 c66 (ok1 c67 (ok1 c68 (ok1 c69 ok0)))))))))) _ ?_ ?_
  · rintro ds ps v ⟨s, l, d, m, vs, y, l', f', m', rfl, hl, hs, hv, ho, hn, rfl, hp, rfl⟩ x hx
    cases hx
    refine ext_me_no (ps := []) (stM_LRow _ _) (rk_plain (isV_plain hv)) rfl ?_
    rintro v ⟨s2, l2, d2, m2, vs2, x2, l2', f2', m2', h1, hl2, _, hv2, _, h2, _⟩
    obtain ⟨rfl, rfl, rfl, _, rfl⟩ := rkL_inj hl hl2 h1
    omega
  · rintro ds ps pv ds' ⟨s, l, d, m, vs, y, l', f', m', rfl, hl, hs, hv, ho, hn, rfl, hp, h⟩
    cases h
    refine unary49 _ rfl rfl rfl rfl rfl rfl rfl rfl rfl rfl hl hs hv ho (Nat.le_of_eq hn) hp (stM_LRow _ _) ?_ _ fun s' hr => meR (bs := []) (isV_plain hv) rfl (fun h => by cases h) hr
    refine ext_me_no (ps := []) (stM_LRow _ _) (rk_plain (isV_plain hv)) rfl ?_
    rintro v ⟨s2, l2, d2, m2, vs2, x2, l2', f2', m2', h1, hl2, _, hv2, _, h2, _⟩
    obtain ⟨rfl, rfl, rfl, _, rfl⟩ := rkL_inj hl hl2 h1
    omega
theorem r38 (n : Nat) (hU : Ok (49, .me (ofM (RR .U n)) [])) : MeOk Tryd.prog 38 (ofM (RR .P n)) := by
  refine me_goM (exts := [(49, .me (ofM (RR .U n)) []), e24, e50, e51r]) (ok1 hU (ok1 c24 (ok1 c50 (ok1 c51r ok0)))) _ (fun _ _ _ _ x hx => by cases hx) ?_
  rintro ds ps pv ds' ⟨s, l, d, m, vs, y, l', f', m', rfl, hl, hs, hv, ho, hn, rfl, hp, h⟩
  cases h
  exact prodR38 _ rfl rfl rfl rfl rfl hl hs hv ho hn hp (stM_LRow _ _) _ fun s' hr => meR (bs := []) (isV_plain hv) rfl (fun h => by cases h) hr
theorem r23 (n : Nat) (hU : Ok (38, .me (ofM (RR .P n)) [])) : MeOk Tryd.prog 23 (ofM (RR .S n)) := by
  refine me_goM (exts := [(38, .me (ofM (RR .P n)) []), e24, e39, e40r]) (ok1 hU (ok1 c24 (ok1 c39 (ok1 c40r ok0)))) _ (fun _ _ _ _ x hx => by cases hx) ?_
  rintro ds ps pv ds' ⟨s, l, d, m, vs, y, l', f', m', rfl, hl, hs, hv, ho, hn, rfl, hp, h⟩
  cases h
  exact sumR23 _ rfl rfl rfl rfl rfl hl hs hv ho hn hp (stM_LRow _ _) _ fun s' hr => meR (bs := []) (isV_plain hv) rfl (fun h => by cases h) hr
theorem r13 (n : Nat) (hU : Ok (23, .me (ofM (RR .S n)) [])) : MeOk Tryd.prog 13 (ofM (RR .X n)) := by
  refine me_goM (exts := [(23, .me (ofM (RR .S n)) []), e24, e25]) (ok1 hU (ok1 c24 (ok1 c25 ok0))) _ (fun _ _ _ _ x hx => by cases hx) ?_
  rintro ds ps pv ds' ⟨s, l, d, m, vs, y, l', f', m', rfl, hl, hs, hv, ho, hn, rfl, hp, h⟩
  cases h
  exact exprR13 _ rfl rfl rfl rfl hl hs hv ho hn hp (stM_LRow _ _) _ fun s' hr => meR (bs := []) (isV_plain hv) rfl (fun h => by cases h) hr
theorem r_zero (f : Nat) (k : Rd) : MeOk Tryd.prog f (ofM (RR k 0)) := by
  intro ρ w vals ds ps pv ds' h hg hF
  obtain ⟨_, _, _, _, _, _, _, _, _, _, _, _, _, _, hl, _⟩ := ofM_some hF
  omega
theorem goodR : ∀ n, MeOk Tryd.prog 49 (ofM (RR .U n)) ∧ MeOk Tryd.prog 13 (ofM (RR .X n))
  | 0 => ⟨r_zero _ _, r_zero _ _⟩
  | n + 1 => by
    obtain ⟨hU, hX⟩ := goodR n
    have hx := r49 n (ext_me hU) (ext_me hX)
    have hU2 : MeOk Tryd.prog 49 (ofM (RR .U (n + 1))) := me_union hU hx (by
      rintro ds ps v ⟨s, l, d, m, vs, y, l', f', m', rfl, hl, hs, hv, ho, hn, rfl, hp, rfl⟩
      by_cases hlt : l.length < n
      · have hR : RR .U n (rkL s l d false m) [] (.w (.c (.int .i64 y)), rkL s l' d f' m') := ⟨s, l, d, m, vs, y, l', f', m', rfl, hl, hs, hv, ho, hlt, rfl, hp, rfl⟩
        exact .inl ⟨hR, fun v' h => rr_u hR h⟩
      · have hR : RRx .U n (rkL s l d false m) [] (.w (.c (.int .i64 y)), rkL s l' d f' m') := ⟨s, l, d, m, vs, y, l', f', m', rfl, hl, hs, hv, ho, by omega, rfl, hp, rfl⟩
        exact .inr ⟨hR, fun v' h => rrx_u hR h⟩)
    exact ⟨hU2, r13 (n + 1) (ext_me (r23 (n + 1) (ext_me (r38 (n + 1) (ext_me hU2)))))⟩
noncomputable def e13 : Nat × Ext := (13, .me (ofM (RR .X 901)) [])
theorem c13 : Ok e13 := ext_me (goodR 901).2
theorem bu43_02 (X : T Ext) (x y : C) : build (En X) 43 [(0, .c x), (2, .c y)] = some (.agg [x, .int .i64 0, y, .bool false, .bool false]) := by kernel_rfl
theorem Eval7 (X : T Ext) (hX : (En X).ext.get 7 = none) (h13 : (En X).ext.get 13 = some (.me (ofM (RR .X 901)) [])) (h14 : (En X).ext.get 14 = some (.me (ofM RSk) [])) {l : List UInt8} (h900 : l.length ≤ 900) {d : D} {vs : List (List UInt8 × List UInt8)} (hv : IsV d vs) (ho : okVs vs)
    {n : Int} {l2 : List UInt8} {f m : Bool} (hp : Rk vs .X l false false n l2 f m) (s : St) (K : V → St → Prop) (hK : ∀ s', K (pvE (refF n l2 f m)).toV s') : goC (En X) 7 [.c (.str (Str.ofL l)), .c d.toC] s K := by
  refine goC_body hX (kp7 X) (fn7 X) rfl (by kernel_rfl) ?_
  have hres : Tryd.f7.results.toList = [.tmp 4, .tmp 5] := rfl
  have hd := isV_plain hv
  have r1 := LRow.new s (cellsD (rkD l 0 d false false))
  have hrow : Blk.row (mkRow [C.str (Str.ofL l), .int .i64 0, d.toC, .bool false, .bool false]) = .row (mkRow (cellsD (rkD l 0 d false false))) := rfl
  simp only [zEV, Nat.reduceShiftRight, Nat.reduceMod, Nat.reduceEqDiff, Nat.reduceAdd, ↓reduceIte, reduceCtorEq, partsOf_cons, partsOf_nil, rBuild_eq', bu43_02, hrow]
  generalize s.new (.row (mkRow (cellsD (rkD l 0 d false false)))) = s1 at r1 ⊢
  rw [← rk_at (s := l) (i := 0) (Nat.zero_le _), List.drop_zero] at r1
  obtain ⟨s2, hc2, r2, n2, f2⟩ := callR_R h13 (List.suffix_refl l) h900 hv ho (by omega) hp r1
  refine go_call _ _ _ _ _ _ (ws := [.c (.ptr s.nx 0)]) rfl (by simp only [zEA, Nat.reduceShiftRight, Nat.reduceMod, Nat.reduceEqDiff, Nat.reduceAdd, ↓reduceIte, reduceCtorEq, argsOf_cons, argsOf_nil]) ?_
  refine goC_of hc2 ?_
  obtain ⟨s3, hc3, r3, n3, f3⟩ := callR_sk h14 hp.suf (by omega) hd r2
  simp only [zEV, Nat.reduceShiftRight, Nat.reduceMod, Nat.reduceEqDiff, Nat.reduceAdd, ↓reduceIte, reduceCtorEq]
  refine go_call _ _ _ _ _ _ (ws := [.c (.ptr s.nx 0)]) rfl (by simp only [zEA, Nat.reduceShiftRight, Nat.reduceMod, Nat.reduceEqDiff, Nat.reduceAdd, ↓reduceIte, reduceCtorEq, argsOf_cons, argsOf_nil]) ?_
  refine goC_of hc3 ?_
  obtain ⟨j, hj, hjq⟩ := suf_drop (List.IsSuffix.trans (dropBl_suf l2) hp.suf)
  have hjz : dropBl l2 = [] ↔ j = l.length := by
    rw [hjq]
    constructor
    · intro h
      have := List.drop_eq_nil_iff.1 h
      omega
    · intro h; exact List.drop_eq_nil_of_le (by omega)
  rw [hjq, rk_at hj] at r3
  have c1 := rk1 r3
  have c3 := rk3 r3
  have c4 := rk4 r3
  have hc1 : ([.bool true] : List C).length = 1 := rfl
  obtain ⟨s4, w4, r4, n4, f4⟩ := rk_set3 r3 true
  have d3 := rk3 r4
  unfold refF at hK
  by_cases hz : dropBl l2 = []
  · have hlt : (Int.ofNat j < Int.ofNat l.length) = False := eq_false (fun h => by have := Int.ofNat_lt.1 h; have := hjz.1 hz; omega)
    have hh : (if f = true then 0 else headN (dropBl l2)) = 0 := by rw [hz]; cases f <;> rfl
    have h0 : (Int.ofNat 0 = 0) = True := eq_true rfl
    have hh2 : headN (dropBl l2) = 0 := by rw [hz]; rfl
    cases f with
    | true =>
      rw [if_pos (.inl rfl)] at hK
      simp only [zEV, Nat.reduceShiftRight, Nat.reduceMod, Nat.reduceEqDiff, Nat.reduceAdd, ↓reduceIte, reduceCtorEq, hh, hh2, h0, rNil_eq, fA_43_1, fA_43_3, ldh3, ldh4, c1, c3, len_str, hlt, hres]
      exact hK _
    | false =>
      rw [if_neg (fun e => by rcases e with e | e; cases e; exact e hz)] at hK
      cases m with
      | true =>
        rw [if_pos rfl] at hK
        simp only [zEV, Nat.reduceShiftRight, Nat.reduceMod, Nat.reduceEqDiff, Nat.reduceAdd, ↓reduceIte, reduceCtorEq, hh, hh2, h0, rNil_eq, fA_43_1, fA_43_3, fA_43_4, ldh3, ldh4, c1, c3, c4, len_str, hlt, hres]
        exact hK _
      | false =>
        rw [if_neg (by simp)] at hK
        simp only [zEV, Nat.reduceShiftRight, Nat.reduceMod, Nat.reduceEqDiff, Nat.reduceAdd, ↓reduceIte, reduceCtorEq, hh, hh2, h0, rNil_eq, fA_43_1, fA_43_3, fA_43_4, ldh3, ldh4, c1, c3, c4, len_str, hlt, hres]
        exact hK _
  · rw [if_pos (.inr hz)] at hK
    have hlt : (Int.ofNat j < Int.ofNat l.length) = True := eq_true (Int.ofNat_lt.2 (by
      have : ¬ j = l.length := fun h => hz (hjz.2 h)
      omega))
    have h00 : (Int.ofNat 0 = 0) = True := eq_true rfl
    cases f with
    | true =>
      simp only [zEV, Nat.reduceShiftRight, Nat.reduceMod, Nat.reduceEqDiff, Nat.reduceAdd, ↓reduceIte, reduceCtorEq, h00, rNil_eq, fA_43_1, fA_43_3, ldh3, ldh4, c1, c3, len_str, hlt, st4, hc1, w4, d3, hres]
      exact hK _
    | false =>
      by_cases h0 : Int.ofNat (headN (dropBl l2)) = 0
      · have e0 := eq_true h0
        simp only [zEV, Nat.reduceShiftRight, Nat.reduceMod, Nat.reduceEqDiff, Nat.reduceAdd, ↓reduceIte, reduceCtorEq, e0, rNil_eq, fA_43_1, fA_43_3, ldh3, ldh4, c1, c3, len_str, hlt, st4, hc1, w4, d3, hres]
        exact hK _
      · have e0 := eq_false h0
        simp only [zEV, Nat.reduceShiftRight, Nat.reduceMod, Nat.reduceEqDiff, Nat.reduceAdd, ↓reduceIte, reduceCtorEq, e0, rNil_eq, fA_43_1, fA_43_3, ldh3, ldh4, c1, c3, len_str, hlt, st4, hc1, w4, d3, hres]
        exact hK _
def REv7 (ps : List PW) (v : PV) : Prop := ∃ l d vs n l2 f m, ps = [.c (.str (Str.ofL l)), .c d] ∧ l.length ≤ 900 ∧ IsV d vs ∧ okVs vs ∧ Rk vs .X l false false n l2 f m ∧ v = pvE (refF n l2 f m)
theorem rev7_u {l : List UInt8} {d : D} {vs : List (List UInt8 × List UInt8)} {n : Int} {l2 : List UInt8} {f m : Bool} (hp : Rk vs .X l false false n l2 f m) (hv : IsV d vs) {v : PV} (h : REv7 [.c (.str (Str.ofL l)), .c d] v) : v = pvE (refF n l2 f m) := by
  obtain ⟨m, d2, vs2, n2, l3, f2, m2, h1, _, hv2, _, hp2, rfl⟩ := h
  simp only [List.cons.injEq, PW.c.injEq, D.str.injEq, and_true] at h1
  obtain ⟨h1, rfl⟩ := h1
  obtain rfl := ofL_inj h1
  obtain rfl := isV_u hv hv2
  obtain ⟨rfl, rfl, rfl, rfl⟩ := hp.det hp2
  rfl
noncomputable def e7 : Nat × Ext := (7, .fn (ofG REv7) [])
theorem c7 : Ok e7 := fn_of_go_g (exts := [e13, e14]) (ok1 c13 (ok1 c14 ok0)) rfl [] rfl _ (by
  rintro ps pv ⟨l, d, vs, n, l2, f, m, rfl, hl, hv, ho, hp, rfl⟩
  exact Eval7 _ rfl rfl rfl hl hv ho hp _ _ fun s' => ⟨[], rfl⟩)
theorem callR_ev7 {X : T Ext} (h7 : (En X).ext.get 7 = some (.fn (ofG REv7) [])) {l : List UInt8} (hl : l.length ≤ 900) {d : D} {vs : List (List UInt8 × List UInt8)} (hv : IsV d vs) (ho : okVs vs) {n : Int} {l2 : List UInt8} {f m : Bool} (hp : Rk vs .X l false false n l2 f m) (s : St) :
    CallR (En X) 7 [.c (.str (Str.ofL l)), .c d.toC] s (pvE (refF n l2 f m)).toV s :=
  callR_fn (ps := [.c (.str (Str.ofL l)), .c d]) (pv := pvE (refF n l2 f m)) h7 (ofG_eq ⟨l, d, vs, n, l2, f, m, rfl, hl, hv, ho, hp, rfl⟩ fun v' h => rev7_u hp hv h) (by show (true && (d.plain && true)) = true; rw [isV_plain hv]; rfl)
end Ar

namespace Ar
open Go Go.Proofs Ev Go.Lib Nu
set_option linter.unusedVariables false
set_option linter.unusedSimpArgs false
set_option linter.unnecessarySimpa false
set_option maxRecDepth 100000
theorem evals3 (X : T Ext) (hX : (En X).ext.get 3 = none) (h6 : (En X).ext.get 6 = some (.fn (ofG REv) gsE)) (h7 : (En X).ext.get 7 = some (.fn (ofG REv7) [])) (h8 : (En X).ext.get 8 = some (.const (.bool true) Ak.gs)) (l : List UInt8) {d : D} {vs : List (List UInt8 × List UInt8)} (hv : IsV d vs) (hvl : ∀ x ∈ vs, x.2.length ≤ 140737488351232) (s : St)
    (hgE : rowsAre s.h.get gsE = true) (hgK : rowsAre s.h.get Ak.gs = true) (K : V → St → Prop) (hK : ∀ s', K (vc (.bool true)) s') : goC (En X) 3 [.c (.str (Str.ofL l)), .c d.toC] s K := by
  refine goC_body hX (kp3 X) (fn3 X) rfl (by kernel_rfl) ?_
  have hres : Tryd.f3.results.toList = [.tmp 4] := rfl
  have hlv : ∀ look, len (En X) 22 look d.toC = some vs.length := fun look => by rw [len_els (us22 X) hv.1, hv.2, List.length_map]
  by_cases g1 : (200 : Int) < Int.ofNat l.length
  · have e1 := eq_true g1
    simp only [zEV, Nat.reduceShiftRight, Nat.reduceMod, Nat.reduceEqDiff, Nat.reduceAdd, ↓reduceIte, reduceCtorEq, len_str, e1, hres]
    exact hK _
  by_cases g2 : (20 : Int) < Int.ofNat vs.length
  · have e1 := eq_false g1
    have e2 := eq_true g2
    simp only [zEV, Nat.reduceShiftRight, Nat.reduceMod, Nat.reduceEqDiff, Nat.reduceAdd, ↓reduceIte, reduceCtorEq, len_str, hlv, e1, e2, hres]
    exact hK _
  have e1 := eq_false g1
  have e2 := eq_false g2
  have hl : l.length ≤ 200 := by have : ¬ (200 : Int) < ((l.length : Nat) : Int) := g1; omega
  have hn : vs.length ≤ 20 := by have : ¬ (20 : Int) < ((vs.length : Nat) : Int) := g2; omega
  have ho : okVs vs := ⟨by omega, hvl⟩
  obtain ⟨t, l', b', hp⟩ := totX l false
  obtain ⟨n, l2, m', hr, hsame⟩ := ref_same (vs := vs) hp
  simp only [zEV, Nat.reduceShiftRight, Nat.reduceMod, Nat.reduceEqDiff, Nat.reduceAdd, ↓reduceIte, reduceCtorEq, len_str, hlv, e1, e2]
  refine go_call _ _ _ _ _ _ (ws := [.c (.str (Str.ofL l)), .c d.toC]) rfl (by simp only [zEA, Nat.reduceShiftRight, Nat.reduceMod, Nat.reduceEqDiff, Nat.reduceAdd, ↓reduceIte, reduceCtorEq, argsOf_cons, argsOf_nil]) ?_
  refine goC_of (callR_ev h6 (by omega) hp hv ho hgE) ?_
  rw [toV_pvE']
  simp only [zEV, Nat.reduceShiftRight, Nat.reduceMod, Nat.reduceEqDiff, Nat.reduceAdd, ↓reduceIte, reduceCtorEq]
  refine go_call _ _ _ _ _ _ (ws := [.c (.str (Str.ofL l)), .c d.toC]) rfl (by simp only [zEA, Nat.reduceShiftRight, Nat.reduceMod, Nat.reduceEqDiff, Nat.reduceAdd, ↓reduceIte, reduceCtorEq, argsOf_cons, argsOf_nil]) ?_
  refine goC_of (callR_ev7 h7 (by omega) hv ho hr _) ?_
  rw [toV_pvE', hsame]
  generalize evalF vs t l' b' = p at *
  have y1 : (p.1 = p.1) = True := eq_true rfl
  have y2 : (p.2 = p.2) = True := eq_true rfl
  simp only [zEV, Nat.reduceShiftRight, Nat.reduceMod, Nat.reduceEqDiff, Nat.reduceAdd, ↓reduceIte, reduceCtorEq, y1, y2]
  refine go_call _ _ _ _ _ _ (ws := []) (g := 8) (cap := []) rfl rfl ?_
  refine goC_of (known_call h8 hgK) ?_
  simp only [zEV, Nat.reduceShiftRight, Nat.reduceMod, Nat.reduceEqDiff, Nat.reduceAdd, ↓reduceIte, reduceCtorEq, hres]
  exact hK _
def RLawE (ps : List PW) (v : PV) : Prop := ∃ l d vs, ps = [.c (.str (Str.ofL l)), .c d] ∧ IsV d vs ∧ (∀ x ∈ vs, x.2.length ≤ 140737488351232) ∧ v = .w (.c (.bool true))
theorem evals_pure : PureOk Tryd.prog 3 Ak.gs (ofG RLawE) :=
  law_pure (exts := [e6, e7, e8k']) Ak.any_ok types_ok fns_ok (oks1 c6 (oks1 c7 (oks1 c8k' oks0))) (f := 3) rfl Ak.gs _ fun ps pv hp => by
    obtain ⟨l, d, vs, rfl, hv, hvl, rfl⟩ := hp
    exact evals3 _ rfl rfl rfl rfl l hv hvl _ (by kernel_rfl) (by kernel_rfl) _ fun s' => ⟨[], rfl⟩
theorem evals_val {l : List UInt8} {d : D} (h : GoodV d) : ofG RLawE [.c (.str (Str.ofL l)), .c d] = some (.w (.c (.bool true))) := by
  obtain ⟨vs, h1, h2⟩ := h
  exact ofG_eq ⟨l, d, vs, rfl, h1, h2, rfl⟩ (by rintro v' ⟨_, _, _, _, _, _, rfl⟩; rfl)
end Ar
