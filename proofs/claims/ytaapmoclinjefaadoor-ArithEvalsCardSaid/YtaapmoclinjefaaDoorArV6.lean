import Derived.Test.YtaapmoclinjefaaDoorArF
import Derived.Test.YtaapmoclinjefaaDoorEwL
namespace Ar
open Go Go.Proofs Ev Go.Lib Nu
set_option linter.unusedVariables false
set_option linter.unusedSimpArgs false
set_option linter.unnecessarySimpa false
set_option maxRecDepth 100000
theorem prefG41 (X : T Ext) (hX : (En X).ext.get 41 = none) (l p : List UInt8) (s : St) (K : V → St → Prop) (hK : ∀ s', K (.w (.c (.bool (pre l p)))) s') :
    goC (En X) 41 [.c (.str (Str.ofL l)), .c (.str (Str.ofL p))] s K := by
  refine goC_body hX (kp41 X) (fn41 X) rfl (by kernel_rfl) ?_
  have hres : Tryd.f41.results.toList = [.tmp 4] := rfl
  by_cases hle : p.length ≤ l.length
  · have hc : (Int.ofNat p.length ≤ Int.ofNat l.length) = True := eq_true (Int.ofNat_le.2 hle)
    have t1 : ∀ look, slice (En X) 9 (.str (Str.ofL l)) none (some (.int .i64 (Int.ofNat p.length))) none look = some (.str (Str.ofL (l.take p.length))) := fun look => slice_stake (ustr9 X) look l hle
    have hb : (l.take p.length == p) = pre l p := rfl
    simp only [zEV, Nat.reduceShiftRight, Nat.reduceMod, Nat.reduceEqDiff, Nat.reduceAdd, ↓reduceIte, reduceCtorEq, len_str, hc, rSlice_hi, t1, hb, hres]
    exact hK _
  · have hc : (Int.ofNat p.length ≤ Int.ofNat l.length) = False := eq_false (fun h => hle (Int.ofNat_le.1 h))
    have hb : pre l p = false := by
      unfold pre
      cases h : (l.take p.length == p) with
      | false => rfl
      | true => have := congrArg List.length (eq_of_beq h); rw [List.length_take] at this; omega
    rw [hb] at hK
    simp only [zEV, Nat.reduceShiftRight, Nat.reduceMod, Nat.reduceEqDiff, Nat.reduceAdd, ↓reduceIte, reduceCtorEq, len_str, hc, hres]
    exact hK _
theorem prefG27 (X : T Ext) (hX : (En X).ext.get 27 = none) (hX1 : (En X).ext.get 41 = none) (l p : List UInt8) (s : St) (K : V → St → Prop) (hK : ∀ s', K (.w (.c (.bool (pre l p)))) s') :
    goC (En X) 27 [.c (.str (Str.ofL l)), .c (.str (Str.ofL p))] s K := by
  refine goC_body hX (kp27 X) (fn27 X) rfl (by kernel_rfl) ?_
  have hres : Tryd.f27.results.toList = [.tmp 4] := rfl
  simp only [zEV, Nat.reduceShiftRight, Nat.reduceMod, Nat.reduceEqDiff, Nat.reduceAdd, ↓reduceIte, reduceCtorEq]
  refine go_call _ _ _ _ _ _ (ws := [.c (.str (Str.ofL l)), .c (.str (Str.ofL p))]) rfl (by simp only [zEA, Nat.reduceShiftRight, Nat.reduceMod, Nat.reduceEqDiff, Nat.reduceAdd, ↓reduceIte, reduceCtorEq, argsOf_cons, argsOf_nil]) ?_
  refine prefG41 X hX1 l p _ _ fun s2 => ?_
  simp only [zEV, Nat.reduceShiftRight, Nat.reduceMod, Nat.reduceEqDiff, Nat.reduceAdd, ↓reduceIte, reduceCtorEq, hres]
  exact hK _
def RPreG (ps : List PW) (v : PV) : Prop := ∃ l p, ps = [.c (.str (Str.ofL l)), .c (.str (Str.ofL p))] ∧ v = .w (.c (.bool (pre l p)))
noncomputable def e27 : Nat × Ext := (27, .fn (ofG RPreG) [])
theorem c27 : Ok e27 := fn_of_go_g (exts := []) ok0 rfl [] rfl _ (by
  rintro ps pv ⟨l, p, rfl, rfl⟩
  exact prefG27 _ rfl rfl l p _ _ fun s' => ⟨[], rfl⟩)
theorem callR_preG {X : T Ext} (h : (En X).ext.get 27 = some (.fn (ofG RPreG) [])) (l p : List UInt8) (s : St) : CallR (En X) 27 [.c (.str (Str.ofL l)), .c (.str (Str.ofL p))] s (.w (.c (.bool (pre l p)))) s :=
  callR_fn (ps := [.c (.str (Str.ofL l)), .c (.str (Str.ofL p))]) (pv := .w (.c (.bool (pre l p)))) h (ofG_eq ⟨l, p, rfl, rfl⟩ (by
    rintro v' ⟨l', p', h1, rfl⟩
    simp only [List.cons.injEq, PW.c.injEq, D.str.injEq, and_true] at h1
    rw [ofL_inj h1.1, ofL_inj h1.2])) rfl
def prD (l : List UInt8) (b : Bool) : List D := [.str (Str.ofL l), .bool b]
theorem pr_plain (l : List UInt8) (b : Bool) : (prD l b).all D.plain = true := rfl
theorem pr_inj {l l' : List UInt8} {b b' : Bool} (h : prD l b = prD l' b') : l = l' ∧ b = b' := by
  simp only [prD, List.cons.injEq, D.str.injEq, D.bool.injEq, and_true] at h
  exact ⟨ofL_inj h.1, h.2⟩
theorem pr_frz (look : Look) (l : List UInt8) (b : Bool) : mapO (frzC look 2000) (cellsD (prD l b)) = some (prD l b, []) := mapO_plain look 2000 _ rfl
theorem st9 (X : T Ext) (s : St) (b o : Nat) (w : W) : store (En X) 9 s b o w = if w.cells.length = 1 then writeL s b o w.cells else none := store_of (tab9 X) tis9 s b o w
theorem st4 (X : T Ext) (s : St) (b o : Nat) (w : W) : store (En X) 4 s b o w = if w.cells.length = 1 then writeL s b o w.cells else none := store_of (tab4 X) tis4 s b o w
theorem pr0 {s : St} {b : Nat} {l : List UInt8} {bd : Bool} (h : LRow s b (cellsD (prD l bd))) : ldHC s.h.get b 0 = some (.c (.str (Str.ofL l))) := h.ldC rfl
theorem pr1 {s : St} {b : Nat} {l : List UInt8} {bd : Bool} (h : LRow s b (cellsD (prD l bd))) : ldHC s.h.get b 1 = some (.c (.bool bd)) := h.ldC rfl
theorem pr_set0 {s : St} {b : Nat} {l : List UInt8} {bd : Bool} (h : LRow s b (cellsD (prD l bd))) (l' : List UInt8) : ∃ s', writeL s b 0 [.str (Str.ofL l')] = some s' ∧ LRow s' b (cellsD (prD l' bd)) ∧ s'.nx = s.nx ∧ ∀ x, x ≠ b → s'.h.get x = s.h.get x := h.one (o := 0) (.str (Str.ofL l')) (show 0 < 2 by omega)
theorem pr_set1 {s : St} {b : Nat} {l : List UInt8} {bd : Bool} (h : LRow s b (cellsD (prD l bd))) (bd' : Bool) : ∃ s', writeL s b 1 [.bool bd'] = some s' ∧ LRow s' b (cellsD (prD l bd')) ∧ s'.nx = s.nx ∧ ∀ x, x ≠ b → s'.h.get x = s.h.get x := h.one (o := 1) (.bool bd') (show 1 < 2 by omega)
theorem lit_bl : Str.of { data := #[32, 9, 10] } = Str.ofL litBl := of_lit [32, 9, 10]
def MeK (pv : PV) (l : List UInt8) (b : Bool) (v : V) (s' : St) : Prop := ∃ bs l' bs2, frzV s'.h.get v = some (pv, bs) ∧ Tryd.prog.globals.size ∉ bs ∧ LRow s' Tryd.prog.globals.size l' ∧ mapO (frzC s'.h.get 2000) l' = some (prD l b, bs2) ∧ Tryd.prog.globals.size ∉ bs2
theorem meK {pv : PV} {l : List UInt8} {b : Bool} {v : V} {s' : St} {bs : List Nat} (h : frzV s'.h.get v = some (pv, bs)) (hb : Tryd.prog.globals.size ∉ bs) (hr : LRow s' Tryd.prog.globals.size (cellsD (prD l b))) : MeK pv l b v s' :=
  ⟨bs, _, [], h, hb, hr, pr_frz _ l b, fun h => by cases h⟩
theorem skips11 (X : T Ext) (hX : (En X).ext.get 11 = none) (h19 : (En X).ext.get 19 = some (.fn (ofG RTrim) [])) (l : List UInt8) (bd : Bool) (b : Nat) (s : St) (K : V → St → Prop) (hr : LRow s b (cellsD (prD l bd)))
    (hK : ∀ s' : St, LRow s' b (cellsD (prD (dropBl l) bd)) → K (.tup []) s') : goC (En X) 11 [.c (.ptr b 0)] s K := by
  refine goC_body hX (kp11 X) (fn11 X) rfl (by kernel_rfl) ?_
  have hres : Tryd.f11.results.toList = [] := rfl
  have c0 := pr0 hr
  simp only [zEV, Nat.reduceShiftRight, Nat.reduceMod, Nat.reduceEqDiff, Nat.reduceAdd, ↓reduceIte, reduceCtorEq, rNil_eq, fA_36_0, ldh9, c0, lit_bl]
  refine go_call _ _ _ _ _ _ (ws := [.c (.str (Str.ofL l)), .c (.str (Str.ofL litBl))]) rfl (by simp only [zEA, Nat.reduceShiftRight, Nat.reduceMod, Nat.reduceEqDiff, Nat.reduceAdd, ↓reduceIte, reduceCtorEq, argsOf_cons, argsOf_nil, lit_bl]) ?_
  refine goC_of (callR_trim h19 l _) ?_
  obtain ⟨s2, w1, r1, n1, f1⟩ := pr_set0 hr (dropBl l)
  have hl1 : ([.str (Str.ofL (dropBl l))] : List C).length = 1 := rfl
  simp only [zEV, Nat.reduceShiftRight, Nat.reduceMod, Nat.reduceEqDiff, Nat.reduceAdd, ↓reduceIte, reduceCtorEq, rNil_eq, fA_36_0, st9, hl1, w1, hres]
  exact hK _ r1
def RSkip (ds : List D) (ps : List PW) (v : PV × List D) : Prop := ∃ l b, ds = prD l b ∧ ps = [] ∧ v = (.tup [], prD (dropBl l) b)
noncomputable def e11 : Nat × Ext := (11, .me (ofM RSkip) [])
theorem c11 : Ok e11 := me_goE (exts := [e19]) Ak.any_ok types_ok fns_ok (ok1 c19 ok0) RSkip (fun _ _ _ _ x hx => by cases hx) (by
  rintro ds ps pv ds' ⟨l, b, rfl, rfl, h⟩
  cases h
  exact skips11 _ rfl rfl l b _ _ _ (stM_LRow _ _) fun s' hr => meK (bs := []) rfl (fun h => by cases h) hr)
theorem callR_skip {X : T Ext} (h11 : (En X).ext.get 11 = some (.me (ofM RSkip) [])) {l : List UInt8} {bd : Bool} {b : Nat} {s : St} (hr : LRow s b (cellsD (prD l bd))) :
    ∃ s2, CallR (En X) 11 [.c (.ptr b 0)] s (.tup []) s2 ∧ LRow s2 b (cellsD (prD (dropBl l) bd)) ∧ s2.nx = s.nx ∧ ∀ x, x ≠ b → s2.h.get x = s.h.get x :=
  callR_me (ps := []) (pv := .tup []) h11 hr rfl rfl ⟨l, bd, rfl, rfl, rfl⟩ (by
    rintro v ⟨l', b', h1, _, rfl⟩
    obtain ⟨rfl, rfl⟩ := pr_inj h1; rfl) rfl
end Ar

namespace Ar
open Go Go.Proofs Ev Go.Lib Nu
set_option linter.unusedVariables false
set_option linter.unusedSimpArgs false
set_option linter.unnecessarySimpa false
set_option maxRecDepth 100000
def tx (ls : List (List UInt8)) : List (List D) := ls.map fun l => [D.str (Str.ofL l)]
theorem tx_els (ls : List (List UInt8)) : IsEls 1 (.sl 1 (tx ls)) := .inr ⟨_, rfl, fun x hx => by
  obtain ⟨l, _, rfl⟩ := List.mem_map.1 hx; rfl⟩
theorem tx_get {ls : List (List UInt8)} {i : Nat} {l : List UInt8} (h : ls[i]? = some l) : (tx ls)[i]? = some [D.str (Str.ofL l)] := by
  unfold tx; rw [List.getElem?_map, h]; rfl
theorem tx_len (ls : List (List UInt8)) : (tx ls).length = ls.length := by unfold tx; simp
theorem tx_inj : ∀ {l r : List (List UInt8)}, tx l = tx r → l = r
  | [], [], _ => rfl
  | [], _ :: _, h => by cases h
  | _ :: _, [], h => by cases h
  | a :: l, b :: r, h => by
    simp only [tx, List.map_cons, List.cons.injEq, D.str.injEq, and_true] at h
    rw [ofL_inj h.1, tx_inj (l := l) (r := r) h.2]
theorem len_tx (X : T Ext) (look : Look) (ls : List (List UInt8)) : len (En X) 66 look (.dat 1 (tx ls)) = some ls.length := by
  have := len_els (look := look) (us66 X) (tx_els ls)
  rw [show (els (.sl 1 (tx ls))).length = ls.length from tx_len ls] at this
  exact this
theorem ix_tx (X : T Ext) {ls : List (List UInt8)} {i : Nat} {l : List UInt8} (h : ls[i]? = some l) : indexAddr (En X) 66 (.dat 1 (tx ls)) (Int.ofNat i) = some (.dp [D.str (Str.ofL l)] 0) :=
  index_els (us66 X) (sz9 X) (tx_els ls) (tx_get h)
theorem toC_strD (s : Str) : D.toC (.str s) = .str s := rfl
theorem takes18 (X : T Ext) (hX : (En X).ext.get 18 = none) (h11 : (En X).ext.get 11 = some (.me (ofM RSkip) [])) (h27 : (En X).ext.get 27 = some (.fn (ofG RPreG) [])) (ls : List (List UInt8)) (hls : ls.length ≤ 1000) (l : List UInt8) (bd : Bool) (b : Nat) (s : St) (K : V → St → Prop) (hr : LRow s b (cellsD (prD l bd)))
    (hK : ∀ s' : St, LRow s' b (cellsD (prD (takeF ls (dropBl l)).2 bd)) → K (.w (.c (.str (Str.ofL (takeF ls (dropBl l)).1)))) s') : goC (En X) 18 [.c (.ptr b 0), .c (.dat 1 (tx ls))] s K := by
  refine goC_body hX (kp18 X) (fn18 X) rfl (by kernel_rfl) ?_
  have hres : Tryd.f18.results.toList = [.tmp 4] := rfl
  simp only [zEV, Nat.reduceShiftRight, Nat.reduceMod, Nat.reduceEqDiff, Nat.reduceAdd, ↓reduceIte, reduceCtorEq, lit_0]
  obtain ⟨s2, hc, r2, n2, f2⟩ := callR_skip h11 hr
  refine go_call _ _ _ _ _ _ (ws := [.c (.ptr b 0)]) rfl (by simp only [zEA, Nat.reduceShiftRight, Nat.reduceMod, Nat.reduceEqDiff, Nat.reduceAdd, ↓reduceIte, reduceCtorEq, argsOf_cons, argsOf_nil]) ?_
  refine goC_of hc ?_
  simp only [zEV, Nat.reduceShiftRight, Nat.reduceMod, Nat.reduceEqDiff, Nat.reduceAdd, ↓reduceIte, reduceCtorEq, len_tx]
  generalize dropBl l = lq at *
  refine go_loop (goL_inv (fun n a' s' => ∃ i, n = ls.length - i ∧ i ≤ ls.length ∧ Has a' 0 (vc (.ptr b 0)) ∧ Has a' 9 (vc (.dat 1 (tx ls))) ∧ Has a' 10 (vc (.int .i64 (Int.ofNat ls.length))) ∧ Has a' 11 (vc (.int .i64 (Int.ofNat i))) ∧ LRow s' b (cellsD (prD lq bd)) ∧ takeF (ls.drop i) lq = takeF ls lq) (n := ls.length)
    ⟨0, rfl, Nat.zero_le _, ⟨rfl, rfl⟩, ⟨rfl, rfl⟩, ⟨rfl, rfl⟩, ⟨rfl, rfl⟩, r2, rfl⟩ ?_)
  rintro n a' s' ⟨i, rfl, hi, ⟨g0, k0⟩, ⟨g9, k9⟩, ⟨g10, k10⟩, ⟨g11, k11⟩, r3, ht⟩
  by_cases hlt : i < ls.length
  · obtain ⟨x, hx⟩ : ∃ x, ls[i]? = some x := ⟨_, List.getElem?_eq_getElem hlt⟩
    have hix := ix_tx X hx
    have hlt' : (Int.ofNat i < Int.ofNat ls.length) = True := by simpa using Int.ofNat_lt.2 hlt
    have hsu := nat_succ (show i < 9223372036854775807 by omega)
    have c0 := pr0 r3
    have hdr : ls.drop i = x :: ls.drop (i + 1) := by
      rw [List.drop_eq_getElem_cons hlt]
      rw [List.getElem?_eq_getElem hlt] at hx
      cases hx; rfl
    rw [hdr] at ht
    simp only [zEV, Nat.reduceShiftRight, Nat.reduceMod, Nat.reduceEqDiff, Nat.reduceAdd, ↓reduceIte, reduceCtorEq, g0, k0, g9, k9, g10, k10, g11, k11, hlt', hix, ld9, ldC, toC_strD, rNil_eq, fA_36_0, ldh9, c0]
    refine go_call _ _ _ _ _ _ (ws := [.c (.str (Str.ofL lq)), .c (.str (Str.ofL x))]) rfl (by simp only [zEV, Nat.reduceShiftRight, Nat.reduceMod, Nat.reduceEqDiff, Nat.reduceAdd, ↓reduceIte, reduceCtorEq, g0, k0, g9, k9, g10, k10, g11, k11, argsOf_cons, argsOf_nil]) ?_
    refine goC_of (callR_preG h27 lq x _) ?_
    by_cases hp : pre lq x = true
    · have ht2 : takeF ls lq = (x, lq.drop x.length) := by rw [← ht]; unfold takeF; rw [if_pos hp]
      rw [ht2] at hK
      have t1 : ∀ look, slice (En X) 9 (.str (Str.ofL lq)) (some (.int .i64 (Int.ofNat x.length))) none none look = some (.str (Str.ofL (lq.drop x.length))) := fun look => slice_sdrop (ustr9 X) look lq (pre_le hp)
      obtain ⟨s4, w4, r4, n4, f4⟩ := pr_set0 r3 (lq.drop x.length)
      have hl1 : ([.str (Str.ofL (lq.drop x.length))] : List C).length = 1 := rfl
      simp only [zEV, Nat.reduceShiftRight, Nat.reduceMod, Nat.reduceEqDiff, Nat.reduceAdd, ↓reduceIte, reduceCtorEq, g0, k0, g9, k9, g10, k10, g11, k11, hp, rNil_eq, fA_36_0, ldh9, c0, len_str, rSlice_lo, t1, st9, hl1, w4, hres]
      exact hK _ r4
    · have hp : pre lq x = false := by simpa using hp
      have ht2 : takeF (ls.drop (i + 1)) lq = takeF ls lq := by rw [← ht]; conv => rhs; unfold takeF; rw [if_neg (by rw [hp]; simp)]
      simp only [zEV, Nat.reduceShiftRight, Nat.reduceMod, Nat.reduceEqDiff, Nat.reduceAdd, ↓reduceIte, reduceCtorEq, g0, k0, g9, k9, g10, k10, g11, k11, hp, hsu]
      refine ⟨_, ?_, i + 1, rfl, hlt, ⟨?_, ?_⟩, ⟨?_, ?_⟩, ⟨?_, ?_⟩, ⟨?_, ?_⟩, r3, ht2⟩
      all_goals first | (simp only [zEA, Nat.reduceShiftRight, Nat.reduceMod, Nat.reduceEqDiff, Nat.reduceAdd, ↓reduceIte, reduceCtorEq, g0, k0, g9, k9, g10, k10, g11, k11]; done) | omega
  · have hlt' : (Int.ofNat i < Int.ofNat ls.length) = False := eq_false (fun h => hlt (Int.ofNat_lt.1 h))
    have hdr : ls.drop i = [] := List.drop_eq_nil_of_le (by omega)
    rw [hdr] at ht
    have ht2 : takeF ls lq = ([], lq) := ht.symm
    rw [ht2] at hK
    simp only [zEV, Nat.reduceShiftRight, Nat.reduceMod, Nat.reduceEqDiff, Nat.reduceAdd, ↓reduceIte, reduceCtorEq, g0, k0, g9, k9, g10, k10, g11, k11, hlt', lit_0, hres]
    exact hK _ r3
def RTake (ds : List D) (ps : List PW) (v : PV × List D) : Prop := ∃ ls l b, ds = prD l b ∧ ps = [.c (.sl 1 (tx ls))] ∧ ls.length ≤ 1000 ∧ v = (.w (.c (.str (Str.ofL (takeF ls (dropBl l)).1))), prD (takeF ls (dropBl l)).2 b)
noncomputable def e18 : Nat × Ext := (18, .me (ofM RTake) [])
theorem c18 : Ok e18 := me_goE (exts := [e11, e27]) Ak.any_ok types_ok fns_ok (ok1 c11 (ok1 c27 ok0)) RTake (fun _ _ _ _ x hx => by cases hx) (by
  rintro ds ps pv ds' ⟨ls, l, b, rfl, rfl, hl, h⟩
  cases h
  exact takes18 _ rfl rfl rfl ls hl l b _ _ _ (stM_LRow _ _) fun s' hr => meK (bs := []) rfl (fun h => by cases h) hr)
theorem callR_meS {E : Env} {f : Nat} {R : List D → List PW → PV × List D → Prop} {b q : Nat} {ds ds' : List D} {c : C} {d : D} {pv : PV} {s : St} (hx : E.ext.get f = some (.me (ofM R) [])) (hr : LRow s b (cellsD ds)) (hd : ds.all D.plain = true) (hz : frzC s.h.get 2000 c = some (d, [q])) (hne : q ≠ b)
    (hR : R ds [.c d] (pv, ds')) (hu : ∀ v, R ds [.c d] v → v = (pv, ds')) (hl : ds'.length = ds.length) : ∃ s2, CallR E f [.c (.ptr b 0), .c c] s pv.toV s2 ∧ LRow s2 b (cellsD ds') ∧ s2.nx = s.nx ∧ ∀ x, x ≠ b → x ≠ q → s2.h.get x = s.h.get x := by
  obtain ⟨qq, h1, h2⟩ := hr.at_
  have hq : qq.getL (cellsD ds).length 0 = some (cellsD ds) := T.getL_of rfl fun j hj => by rw [Nat.zero_add]; exact h2 j hj
  have hme : meRow s b = some (cellsD ds) := by unfold meRow; rw [h1]; exact hq
  have hw : frzWs s.h.get [.c c] = some ([.c d], [q] ++ []) := by
    have : frzW s.h.get (.c c) = some (.c d, [q]) := by unfold frzW; simp only []; rw [hz]
    simp only [frzWs, this]
  have hn : natIn b ([] ++ ([q] ++ [])) = false := by
    cases h : natIn b ([] ++ ([q] ++ [])) with
    | false => rfl
    | true =>
      have := (natIn_iff _ _).1 h
      simp at this
      exact absurd this.symm hne
  refine ⟨⟨(kill s.h [q]).set b (.row (mkRow (cellsD ds'))), s.nx⟩, callR_ext hx ?_, LRow.of_rowB ?_, rfl, fun x hxb hxq => ?_⟩
  · show extMe (ofM R) [.c (.ptr b 0), .c c] s = _
    unfold extMe
    simp only [hme, mapO_plain _ 2000 ds hd, hw, hn, ofM_eq hR hu, lenA_zero, hl, Nat.beq_refl]
    rfl
  · show ((kill s.h [q]).set b _).get b = _
    rw [T.get_set, if_pos rfl, mkRow_rowB]
  · show ((kill s.h [q]).set b _).get x = _
    rw [T.get_set_ne _ _ hxb, kill_get, if_neg (by simpa using hxq)]
theorem tx_cells : ∀ ls : List (List UInt8), cellsD (tx ls).flatten = ls.map fun x => C.str (Str.ofL x)
  | [] => rfl
  | a :: ls => by
    have := tx_cells ls
    unfold tx cellsD at this ⊢
    simp only [List.map_cons, List.flatten_cons, List.map_append, this]
    rfl
theorem tx_plain : ∀ ls : List (List UInt8), (tx ls).flatten.all D.plain = true
  | [] => rfl
  | a :: ls => by
    have := tx_plain ls
    unfold tx at this ⊢
    simp only [List.map_cons, List.flatten_cons, List.all_append, this]
    rfl
theorem callR_take {X : T Ext} (h18 : (En X).ext.get 18 = some (.me (ofM RTake) [])) {ls : List (List UInt8)} (hls : ls.length ≤ 1000) {l : List UInt8} {bd : Bool} {b q : Nat} {cap : Option Nat} {s : St} (hr : LRow s b (cellsD (prD l bd))) (hq : LRow s q (ls.map fun x => C.str (Str.ofL x))) (hne : q ≠ b) (hcap : capOk cap ls.length = true) :
    ∃ s2, CallR (En X) 18 [.c (.ptr b 0), .c (.sl q 0 ls.length cap 1)] s (.w (.c (.str (Str.ofL (takeF ls (dropBl l)).1)))) s2 ∧ LRow s2 b (cellsD (prD (takeF ls (dropBl l)).2 bd)) ∧ s2.nx = s.nx ∧ ∀ x, x ≠ b → x ≠ q → s2.h.get x = s.h.get x := by
  have hz : frzC s.h.get 2000 (.sl q 0 ls.length cap 1) = some (.sl 1 (tx ls), [q]) := by
    have := frz_sl (s := s) (b := q) (z := 1) (cap := cap) (ls := tx ls) (fun x hx => by obtain ⟨l, _, rfl⟩ := List.mem_map.1 hx; rfl) (RowAt.of (by rw [tx_cells]; exact hq)) (tx_plain ls) (Nat.le_refl _) (by rw [tx_len]; exact hcap) 1999
    rwa [tx_len] at this
  exact callR_meS (pv := .w (.c (.str (Str.ofL (takeF ls (dropBl l)).1)))) h18 hr rfl hz hne ⟨ls, l, bd, rfl, rfl, hls, rfl⟩ (by
    rintro v ⟨ls', l', b', h1, h2, _, rfl⟩
    obtain ⟨rfl, rfl⟩ := pr_inj h1
    simp only [List.cons.injEq, PW.c.injEq, D.sl.injEq, true_and, and_true] at h2
    rw [tx_inj h2]) rfl
end Ar
