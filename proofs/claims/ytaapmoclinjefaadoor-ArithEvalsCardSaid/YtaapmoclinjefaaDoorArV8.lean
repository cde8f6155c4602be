import Derived.Test.YtaapmoclinjefaaDoorArO
import Derived.Test.YtaapmoclinjefaaDoorEwL
namespace Ar
open Go Go.Proofs Ev Go.Lib Nu
set_option linter.unusedVariables false
set_option linter.unusedSimpArgs false
set_option linter.unnecessarySimpa false
set_option maxRecDepth 100000
def elV (x : List UInt8 × List UInt8) : List D := [.str (Str.ofL x.1), .str (Str.ofL x.2)]
def IsV (d : D) (vs : List (List UInt8 × List UInt8)) : Prop := IsEls 2 d ∧ els d = vs.map elV
def idxV (name : List UInt8) : List (List UInt8 × List UInt8) → Nat
  | [] => 0
  | x :: vs => if x.1 = name then 0 else idxV name vs + 1
def valV (name : List UInt8) : List (List UInt8 × List UInt8) → Int × Bool
  | [] => (0, true)
  | x :: vs => if x.1 = name then (if x.2 = [] then (0, true) else ((refNum x.2).getD 0, (refNum x.2).isSome)) else valV name vs
theorem valV_at (name : List UInt8) : ∀ vs : List (List UInt8 × List UInt8), (idxV name vs < vs.length → ∃ x, vs[idxV name vs]? = some x ∧ valV name vs = (if x.2 = [] then (0, true) else ((refNum x.2).getD 0, (refNum x.2).isSome))) ∧ (¬ idxV name vs < vs.length → valV name vs = (0, true))
  | [] => ⟨fun h => by simp at h, fun _ => rfl⟩
  | x :: vs => by
    unfold idxV valV
    by_cases h : x.1 = name
    · simp only [if_pos h]
      exact ⟨fun _ => ⟨x, rfl, rfl⟩, fun h => by simp at h⟩
    · simp only [if_neg h]
      have := valV_at name vs
      refine ⟨fun hl => ?_, fun hl => this.2 (by simpa using hl)⟩
      obtain ⟨y, h1, h2⟩ := this.1 (by simpa using hl)
      exact ⟨y, by simpa using h1, h2⟩
theorem idxV_step (name : List UInt8) : ∀ (vs : List (List UInt8 × List UInt8)) (i : Nat) (x : List UInt8 × List UInt8), i ≤ idxV name vs → vs[i]? = some x → (x.1 = name → idxV name vs = i) ∧ (x.1 ≠ name → i + 1 ≤ idxV name vs)
  | [], i, x, _, h => by simp at h
  | y :: vs, 0, x, _, h => by
    simp at h
    subst h
    unfold idxV
    exact ⟨fun h => if_pos h, fun h => by rw [if_neg h]; omega⟩
  | y :: vs, i + 1, x, hi, h => by
    unfold idxV at hi ⊢
    by_cases hy : y.1 = name
    · rw [if_pos hy] at hi; omega
    · rw [if_neg hy] at hi ⊢
      have := idxV_step name vs i x (by omega) (by simpa using h)
      exact ⟨fun h => by rw [this.1 h], fun h => by have := this.2 h; omega⟩
theorem idxV_le (name : List UInt8) : ∀ vs, idxV name vs ≤ vs.length
  | [] => Nat.le_refl _
  | x :: vs => by
    have := idxV_le name vs
    unfold idxV
    split <;> simp <;> omega
theorem clo36 (X : T Ext) (hX : (En X).ext.get 36 = none) (x : List UInt8 × List UInt8) (name : List UInt8) {p : Nat} (s : St) (hp : LRow s p [.str (Str.ofL name)]) (hps : p < s.nx) (K : V → St → Prop)
    (hK : ∀ s' : St, s.nx ≤ s'.nx → (∀ x, x < s.nx → s'.h.get x = s.h.get x) → K (vc (.bool (x.1 == name))) s') : goC (En X) 36 [.agg (cellsD (elV x)), .c (.ptr p 0)] s K := by
  refine goC_body hX (kp36 X) (fn36 X) rfl (by kernel_rfl) ?_
  have hres : Tryd.f36.results.toList = [.tmp 3] := rfl
  have r1 := LRow.new s (cellsD (elV x))
  have r2 : LRow (s.new (.row (mkRow (cellsD (elV x))))) p [.str (Str.ofL name)] := hp.keep (new_old _ _ hps)
  have n1 : (s.new (.row (mkRow (cellsD (elV x))))).nx = s.nx + 1 := St.new_nx _ _
  have f1 : ∀ y, y < s.nx → (s.new (.row (mkRow (cellsD (elV x))))).h.get y = s.h.get y := fun y hy => new_old s _ hy
  simp only [zEV, Nat.reduceShiftRight, Nat.reduceMod, Nat.reduceEqDiff, Nat.reduceAdd, ↓reduceIte, reduceCtorEq]
  generalize s.new (.row (mkRow (cellsD (elV x)))) = s1 at r1 r2 n1 f1 ⊢
  have l1 : ldHC s1.h.get s.nx 0 = some (.c (.str (Str.ofL x.1))) := r1.ldC rfl
  have l2 : ldHC s1.h.get p 0 = some (.c (.str (Str.ofL name))) := r2.ldC rfl
  simp only [zEV, Nat.reduceShiftRight, Nat.reduceMod, Nat.reduceEqDiff, Nat.reduceAdd, ↓reduceIte, reduceCtorEq, fA_32_0, ldh9, l1, l2, hres]
  exact hK _ (by omega) f1
theorem index35 (X : T Ext) (hX : (En X).ext.get 35 = none) (h36 : (En X).ext.get 36 = none) {d : D} {vs : List (List UInt8 × List UInt8)} (hv : IsV d vs) (hn : vs.length ≤ 1000) (name : List UInt8) {p : Nat} (s : St) (hp : LRow s p [.str (Str.ofL name)]) (hps : p < s.nx) (K : V → St → Prop)
    (hK : ∀ s' : St, s.nx ≤ s'.nx → (∀ x, x < s.nx → s'.h.get x = s.h.get x) → K (vc (.int .i64 (if idxV name vs < vs.length then Int.ofNat (idxV name vs) else -1))) s') : goC (En X) 35 [.c d.toC, .c (.fn 36 [(p, 0)])] s K := by
  refine goC_body hX (kp35 X) (fn35 X) rfl (by kernel_rfl) ?_
  have hres : Tryd.f35.results.toList = [.tmp 4] := rfl
  obtain ⟨hv1, hv2⟩ := hv
  have hlv : (els d).length = vs.length := by rw [hv2, List.length_map]
  have hl : ∀ look, len (En X) 22 look d.toC = some vs.length := fun look => by rw [len_els (us22 X) hv1, hlv]
  simp only [zEV, Nat.reduceShiftRight, Nat.reduceMod, Nat.reduceEqDiff, Nat.reduceAdd, ↓reduceIte, reduceCtorEq, hl]
  refine go_loop (goL_inv (fun n a s' => ∃ i, n = vs.length - i ∧ i ≤ vs.length ∧ i ≤ idxV name vs ∧ Has a 0 (vc d.toC) ∧ Has a 1 (vc (.fn 36 [(p, 0)])) ∧ Has a 7 (vc (.int .i64 (Int.ofNat vs.length))) ∧ Has a 8 (vc (.int .i64 (Int.ofNat i))) ∧ s.nx ≤ s'.nx ∧ ∀ x, x < s.nx → s'.h.get x = s.h.get x) (n := vs.length)
    ⟨0, rfl, Nat.zero_le _, Nat.zero_le _, ⟨rfl, rfl⟩, ⟨rfl, rfl⟩, ⟨rfl, rfl⟩, ⟨rfl, rfl⟩, Nat.le_refl _, fun _ _ => rfl⟩ ?_)
  rintro n a s' ⟨i, rfl, hi, hix, ⟨g0, k0⟩, ⟨g1, k1⟩, ⟨g7, k7⟩, ⟨g8, k8⟩, hnx, hkp⟩
  have hp2 := hp.keep (hkp p hps)
  have hile := idxV_le name vs
  by_cases hlt : i < vs.length
  · obtain ⟨x, hx⟩ : ∃ x, vs[i]? = some x := ⟨_, List.getElem?_eq_getElem hlt⟩
    have hxe : (els d)[i]? = some (elV x) := by rw [hv2, List.getElem?_map, hx]; rfl
    have hia := index_els (us22 X) (sz32 X) hv1 hxe
    have hla : ldA 2 (elV x) 0 = some (.agg (cellsD (elV x))) := rfl
    have hlt' : (Int.ofNat i < Int.ofNat vs.length) = True := eq_true (Int.ofNat_lt.2 hlt)
    have hsu := nat_succ (show i < 9223372036854775807 by omega)
    have hst := idxV_step name vs i x hix hx
    simp only [zEV, Nat.reduceShiftRight, Nat.reduceMod, Nat.reduceEqDiff, Nat.reduceAdd, ↓reduceIte, reduceCtorEq, g0, k0, g1, k1, g7, k7, g8, k8, hlt', hia, ld32, hla]
    refine go_call _ _ _ _ _ _ (ws := [.agg (cellsD (elV x))]) (g := 36) (cap := [(p, 0)]) (by simp only [zEV, Nat.reduceShiftRight, Nat.reduceMod, Nat.reduceEqDiff, Nat.reduceAdd, ↓reduceIte, reduceCtorEq, g0, k0, g1, k1, g7, k7, g8, k8]) (by simp only [zEV, Nat.reduceShiftRight, Nat.reduceMod, Nat.reduceEqDiff, Nat.reduceAdd, ↓reduceIte, reduceCtorEq, g0, k0, g1, k1, g7, k7, g8, k8, argsOf_cons, argsOf_nil]) ?_
    refine clo36 X h36 x name s' hp2 (by omega) _ fun s2 hn3 hk3 => ?_
    have hk4 : ∀ x, x < s.nx → s2.h.get x = s.h.get x := fun x hx => (hk3 x (by omega)).trans (hkp x hx)
    by_cases hq : x.1 = name
    · have hb : (x.1 == name) = true := by simpa using hq
      have hi2 := hst.1 hq
      rw [if_pos (by omega), hi2] at hK
      simp only [zEV, Nat.reduceShiftRight, Nat.reduceMod, Nat.reduceEqDiff, Nat.reduceAdd, ↓reduceIte, reduceCtorEq, g0, k0, g1, k1, g7, k7, g8, k8, hb, hres]
      exact hK _ (by omega) hk4
    · have hb : (x.1 == name) = false := by simpa using hq
      have hi2 := hst.2 hq
      simp only [zEV, Nat.reduceShiftRight, Nat.reduceMod, Nat.reduceEqDiff, Nat.reduceAdd, ↓reduceIte, reduceCtorEq, g0, k0, g1, k1, g7, k7, g8, k8, hb, hsu]
      refine ⟨_, ?_, i + 1, rfl, hlt, hi2, ⟨?_, ?_⟩, ⟨?_, ?_⟩, ⟨?_, ?_⟩, ⟨?_, ?_⟩, by omega, hk4⟩
      all_goals first | (simp only [zEA, Nat.reduceShiftRight, Nat.reduceMod, Nat.reduceEqDiff, Nat.reduceAdd, ↓reduceIte, reduceCtorEq, g0, k0, g1, k1, g7, k7, g8, k8]; done) | omega
  · have hlt' : (Int.ofNat i < Int.ofNat vs.length) = False := eq_false (fun h => hlt (Int.ofNat_lt.1 h))
    rw [if_neg (by omega)] at hK
    simp only [zEV, Nat.reduceShiftRight, Nat.reduceMod, Nat.reduceEqDiff, Nat.reduceAdd, ↓reduceIte, reduceCtorEq, g0, k0, g1, k1, g7, k7, g8, k8, hlt', hres]
    exact hK _ hnx hkp
def pvP (p : Int × Bool) : PV := .tup [.c (.int .i64 p.1), .c (.bool p.2)]
theorem rMakeFunc_one (a : A) (f : Nat) (x : Operand) : rMakeFunc a (.func f) [] [x] = match opP a x with
  | some y => some (vc (.fn f [y]))
  | none => none := by
  unfold rMakeFunc ptrsOf
  cases opP a x <;> rfl
theorem value20 (X : T Ext) (hX : (En X).ext.get 20 = none) (hX1 : (En X).ext.get 35 = none) (h36 : (En X).ext.get 36 = none) (h15 : (En X).ext.get 15 = some (.fn (ofG RNum) gsE)) {d : D} {vs : List (List UInt8 × List UInt8)} (hv : IsV d vs) (hn : vs.length ≤ 1000) (hvl : ∀ x ∈ vs, x.2.length ≤ 140737488351232)
    (name : List UInt8) (s : St) (hg : rowsAre s.h.get gsE = true) (hgn : ∀ p ∈ gsE, p.1 < s.nx) (K : V → St → Prop) (hK : ∀ s', K (pvP (valV name vs)).toV s') : goC (En X) 20 [.c (.str (Str.ofL name)), .c d.toC] s K := by
  refine goC_body hX (kp20 X) (fn20 X) rfl (by kernel_rfl) ?_
  have hres : Tryd.f20.results.toList = [.tmp 4, .tmp 5] := rfl
  have r1 := LRow.new s [C.str (Str.ofL name)]
  have n1 : (s.new (.row (mkRow [C.str (Str.ofL name)]))).nx = s.nx + 1 := St.new_nx _ _
  have f1 : ∀ y, y < s.nx → (s.new (.row (mkRow [C.str (Str.ofL name)]))).h.get y = s.h.get y := fun y hy => new_old s _ hy
  simp only [zEV, Nat.reduceShiftRight, Nat.reduceMod, Nat.reduceEqDiff, Nat.reduceAdd, ↓reduceIte, reduceCtorEq, go_makeFunc, rMakeFunc_one]
  generalize s.new (.row (mkRow [C.str (Str.ofL name)])) = s1 at r1 n1 f1 ⊢
  refine go_call _ _ _ _ _ _ (ws := [.c d.toC, .c (.fn 36 [(s.nx, 0)])]) rfl (by simp only [zEA, Nat.reduceShiftRight, Nat.reduceMod, Nat.reduceEqDiff, Nat.reduceAdd, ↓reduceIte, reduceCtorEq, argsOf_cons, argsOf_nil]) ?_
  refine index35 X hX1 h36 hv hn name s1 r1 (by omega) _ fun s2 n2 f2 => ?_
  have hg2 : rowsAre s2.h.get gsE = true := rows_congr (fun p hp => by have := hgn p hp; rw [f2 _ (by omega), f1 _ this]) hg
  have hva := valV_at name vs
  by_cases hlt : idxV name vs < vs.length
  · obtain ⟨x, hx, hval⟩ := hva.1 hlt
    rw [if_pos hlt]
    have hxe : (els d)[idxV name vs]? = some (elV x) := by rw [hv.2, List.getElem?_map, hx]; rfl
    have hia := index_els (us22 X) (sz32 X) hv.1 hxe
    have hlc : ldC (elV x) 1 = some (.c (.str (Str.ofL x.2))) := rfl
    have hneg : (Int.ofNat (idxV name vs) < 0) = False := eq_false (fun h => absurd h (by show ¬ ((idxV name vs : Nat) : Int) < 0; omega))
    by_cases hz : x.2 = []
    · have hb : (x.2 == ([] : List UInt8)) = true := by rw [hz]; rfl
      rw [hval, if_pos hz] at hK
      simp only [zEV, Nat.reduceShiftRight, Nat.reduceMod, Nat.reduceEqDiff, Nat.reduceAdd, ↓reduceIte, reduceCtorEq, hneg, hia, fD_32_1, Nat.zero_add, ld9, hlc, lit_0, hb, hres]
      exact hK _
    · have hb : (x.2 == ([] : List UInt8)) = false := by simpa using hz
      rw [hval, if_neg hz] at hK
      simp only [zEV, Nat.reduceShiftRight, Nat.reduceMod, Nat.reduceEqDiff, Nat.reduceAdd, ↓reduceIte, reduceCtorEq, hneg, hia, fD_32_1, Nat.zero_add, ld9, hlc, lit_0, hb]
      refine go_call _ _ _ _ _ _ (ws := [.c (.str (Str.ofL x.2))]) rfl (by simp only [zEA, Nat.reduceShiftRight, Nat.reduceMod, Nat.reduceEqDiff, Nat.reduceAdd, ↓reduceIte, reduceCtorEq, argsOf_cons, argsOf_nil]) ?_
      refine goC_of (callR_num h15 x.2 (hvl x (List.mem_of_getElem? hx)) _ hg2) ?_
      simp only [zEV, Nat.reduceShiftRight, Nat.reduceMod, Nat.reduceEqDiff, Nat.reduceAdd, ↓reduceIte, reduceCtorEq, hres]
      exact hK _
  · rw [if_neg hlt]
    have hneg : ((-1 : Int) < 0) = True := eq_true (by decide)
    rw [hva.2 hlt] at hK
    simp only [zEV, Nat.reduceShiftRight, Nat.reduceMod, Nat.reduceEqDiff, Nat.reduceAdd, ↓reduceIte, reduceCtorEq, hneg, hres]
    exact hK _
def okVs (vs : List (List UInt8 × List UInt8)) : Prop := vs.length ≤ 1000 ∧ ∀ x ∈ vs, x.2.length ≤ 140737488351232
def RVal (ps : List PW) (v : PV) : Prop := ∃ name d vs, ps = [.c (.str (Str.ofL name)), .c d] ∧ IsV d vs ∧ okVs vs ∧ v = pvP (valV name vs)
theorem isV_u {d : D} {vs vs' : List (List UInt8 × List UInt8)} (h : IsV d vs) (h' : IsV d vs') : vs = vs' := by
  have e := h.2.symm.trans h'.2
  clear h h'
  induction vs generalizing vs' with
  | nil => cases vs' with
    | nil => rfl
    | cons a b => cases e
  | cons a b ih => cases vs' with
    | nil => cases e
    | cons c f =>
      simp only [List.map_cons, List.cons.injEq, elV, D.str.injEq, and_true] at e
      rw [ih e.2, Prod.ext (ofL_inj e.1.1) (ofL_inj e.1.2)]
theorem isV_plain {d : D} {vs : List (List UInt8 × List UInt8)} (h : IsV d vs) : d.plain = true := by
  rcases h.1 with rfl | ⟨l, rfl, _⟩ <;> rfl
noncomputable def e20 : Nat × Ext := (20, .fn (ofG RVal) gsE)
theorem c20 : Ok e20 := fn_of_go_g (exts := [e4]) (ok1 c4 ok0) rfl gsE gsE_ok _ (by
  rintro ps pv ⟨name, d, vs, rfl, hv, ⟨h1, h2⟩, rfl⟩
  exact value20 _ rfl rfl rfl rfl hv h1 h2 name _ (by kernel_rfl) (by decide) _ fun s' => ⟨[], rfl⟩)
theorem callR_val {X : T Ext} (h20 : (En X).ext.get 20 = some (.fn (ofG RVal) gsE)) (name : List UInt8) {d : D} {vs : List (List UInt8 × List UInt8)} (hv : IsV d vs) (ho : okVs vs) (s : St) (hg : rowsAre s.h.get gsE = true) : CallR (En X) 20 [.c (.str (Str.ofL name)), .c d.toC] s (pvP (valV name vs)).toV s :=
  callR_fn_g (ps := [.c (.str (Str.ofL name)), .c d]) (pv := pvP (valV name vs)) h20 hg (ofG_eq ⟨name, d, vs, rfl, hv, ho, rfl⟩ (by
    rintro v' ⟨n', d', vs', h1, hv', _, rfl⟩
    simp only [List.cons.injEq, PW.c.injEq, D.str.injEq, and_true] at h1
    obtain ⟨h1, rfl⟩ := h1
    rw [ofL_inj h1, isV_u hv hv'])) (by simp only [List.all_cons, List.all_nil, PW.plain, isV_plain hv]; rfl)
end Ar

namespace Ar
open Go Go.Proofs Ev Go.Lib Nu
set_option linter.unusedVariables false
set_option linter.unusedSimpArgs false
set_option linter.unnecessarySimpa false
set_option maxRecDepth 100000
theorem lit_o43 : Str.of { data := #[43] } = Str.ofL [43] := of_lit _
theorem lit_o45 : Str.of { data := #[45] } = Str.ofL [45] := of_lit _
theorem lit_o42 : Str.of { data := #[42] } = Str.ofL [42] := of_lit _
theorem lit_o47 : Str.of { data := #[47] } = Str.ofL [47] := of_lit _
theorem lit_o37 : Str.of { data := #[37] } = Str.ofL [37] := of_lit _
theorem lit_o60 : Str.of { data := #[60] } = Str.ofL [60] := of_lit _
theorem lit_o60_61 : Str.of { data := #[60, 61] } = Str.ofL [60, 61] := of_lit _
theorem lit_o62 : Str.of { data := #[62] } = Str.ofL [62] := of_lit _
theorem lit_o62_61 : Str.of { data := #[62, 61] } = Str.ofL [62, 61] := of_lit _
theorem lit_o61_61 : Str.of { data := #[61, 61] } = Str.ofL [61, 61] := of_lit _
def wr (n : Int) : Int := wrapK .i64 n
def minI : Int := -9223372036854775808
def bitF (c : Bool) : Int × Bool := (if c then 1 else 0, true)
def timesF (a b : Int) : Int × Bool :=
  if a = 0 ∨ b = 0 then (0, true) else if (a = minI ∧ b = -1) ∨ (b = minI ∧ a = -1) then (0, false) else (wr (a * b), decide (wr ((wr (a * b)).tdiv b) = a))
def twoF (op : List UInt8) (a b : Int) : Int × Bool :=
  if op = [43] then (wr (a + b), (decide (0 ≤ a) != decide (0 ≤ b)) || (decide (0 ≤ a) == decide (0 ≤ wr (a + b))))
  else if op = [45] then (wr (a - b), (decide (0 ≤ a) == decide (0 ≤ b)) || (decide (0 ≤ a) == decide (0 ≤ wr (a - b))))
  else if op = [42] then timesF a b
  else if op = [47] then (if b = 0 ∨ (a = minI ∧ b = -1) then (0, false) else (wr (a.tdiv b), true))
  else if op = [37] then (if b = 0 then (0, false) else (a.tmod b, true))
  else if op = [60] then bitF (decide (a < b))
  else if op = [60, 61] then bitF (decide (a ≤ b))
  else if op = [62] then bitF (decide (b < a))
  else if op = [62, 61] then bitF (decide (b ≤ a))
  else if op = [61, 61] then bitF (decide (a = b))
  else bitF (!decide (a = b))
theorem b_quoI (E : Env) (t : Nat) (ox oy : Operand) (m n : Int) (hn : n ≠ 0) : Ev.binOp E .quo t ox oy (.c (.int .i64 m)) (.c (.int .i64 n)) = some (vc (.int .i64 (wrapK .i64 (m.tdiv n)))) := by
  have hk : kEq .i64 .i64 = true := rfl
  have h0 : iEq n 0 = false := by rw [iEq_eq]; simpa using hn
  simp only [Ev.binOp, isShift, hk, intOp, h0, intC_eq, retC_some]
theorem b_remI (E : Env) (t : Nat) (ox oy : Operand) (m n : Int) (hn : n ≠ 0) : Ev.binOp E .rem t ox oy (.c (.int .i64 m)) (.c (.int .i64 n)) = some (vc (.int .i64 (m.tmod n))) := by
  have hk : kEq .i64 .i64 = true := rfl
  have h0 : iEq n 0 = false := by rw [iEq_eq]; simpa using hn
  simp only [Ev.binOp, isShift, hk, intOp, h0, intC_eq, retC_some]
theorem b_bneq (X : T Ext) (ox oy : Operand) (x y : Bool) : Ev.binOp (En X) .neq 4 ox oy (.c (.bool x)) (.c (.bool y)) = some (vc (.bool (x != y))) := by
  cases x <;> cases y <;> kernel_rfl
theorem b_beql (X : T Ext) (ox oy : Operand) (x y : Bool) : Ev.binOp (En X) .eql 4 ox oy (.c (.bool x)) (.c (.bool y)) = some (vc (.bool (x == y))) := by
  cases x <;> cases y <;> kernel_rfl
theorem bit21 (X : T Ext) (hX : (En X).ext.get 21 = none) (c : Bool) (s : St) (K : V → St → Prop) (hK : ∀ s', K (pvP (bitF c)).toV s') : goC (En X) 21 [.c (.bool c)] s K := by
  refine goC_body hX (kp21 X) (fn21 X) rfl (by kernel_rfl) ?_
  have hres : Tryd.f21.results.toList = [.tmp 2, .tmp 3] := rfl
  cases c <;> (simp only [zEV, zGS, Nat.reduceShiftRight, Nat.reduceMod, Nat.reduceEqDiff, Nat.reduceAdd, ↓reduceIte, reduceCtorEq, hres]; exact hK _)
theorem times37 (X : T Ext) (hX : (En X).ext.get 37 = none) (a b : Int) (s : St) (K : V → St → Prop) (hK : ∀ s', K (pvP (timesF a b)).toV s') : goC (En X) 37 [.c (.int .i64 a), .c (.int .i64 b)] s K := by
  refine goC_body hX (kp37 X) (fn37 X) rfl (by kernel_rfl) ?_
  have hres : Tryd.f37.results.toList = [.tmp 4, .tmp 5] := rfl
  unfold timesF at hK
  by_cases ha : a = 0
  · rw [if_pos (.inl ha)] at hK
    have h1 := eq_true ha
    simp only [zEV, zGS, Nat.reduceShiftRight, Nat.reduceMod, Nat.reduceEqDiff, Nat.reduceAdd, ↓reduceIte, reduceCtorEq, h1, hres]
    exact hK _
  · by_cases hb : b = 0
    · rw [if_pos (.inr hb)] at hK
      have h1 := eq_false ha
      have h2 := eq_true hb
      simp only [zEV, zGS, Nat.reduceShiftRight, Nat.reduceMod, Nat.reduceEqDiff, Nat.reduceAdd, ↓reduceIte, reduceCtorEq, h1, h2, hres]
      exact hK _
    · rw [if_neg (fun h => h.elim ha hb)] at hK
      have h1 := eq_false ha
      have h2 := eq_false hb
      have q1 := fun ox oy => b_quoI (En X) 2 ox oy (wrapK .i64 (a * b)) b hb
      by_cases hc : (a = minI ∧ b = -1) ∨ (b = minI ∧ a = -1)
      · rw [if_pos hc] at hK
        by_cases h3 : a = -9223372036854775808
        · by_cases h4 : b = -1
          · have e3 := eq_true h3
            have e4 := eq_true h4
            simp only [zEV, zGS, Nat.reduceShiftRight, Nat.reduceMod, Nat.reduceEqDiff, Nat.reduceAdd, ↓reduceIte, reduceCtorEq, h1, h2, e3, e4, hres]
            exact hK _
          · have h5 : b = -9223372036854775808 ∧ a = -1 := by
              rcases hc with h | h
              · exact absurd h.2 h4
              · exact h
            omega
        · have h5 : b = -9223372036854775808 ∧ a = -1 := by
            rcases hc with h | h
            · exact absurd h.1 h3
            · exact h
          have e3 := eq_false h3
          have e4 := eq_true h5.1
          have e5 := eq_true h5.2
          simp only [zEV, zGS, Nat.reduceShiftRight, Nat.reduceMod, Nat.reduceEqDiff, Nat.reduceAdd, ↓reduceIte, reduceCtorEq, h1, h2, e3, e4, e5, hres]
          exact hK _
      · rw [if_neg hc] at hK
        have hc1 : ¬ (a = -9223372036854775808 ∧ b = -1) := fun h => hc (.inl h)
        have hc2 : ¬ (b = -9223372036854775808 ∧ a = -1) := fun h => hc (.inr h)
        by_cases h3 : a = -9223372036854775808
        · have h4 : ¬ b = -1 := fun h => hc1 ⟨h3, h⟩
          have e3 := eq_true h3
          have e4 := eq_false h4
          by_cases h5 : b = -9223372036854775808
          · have h6 : ¬ a = -1 := fun h => hc2 ⟨h5, h⟩
            have e5 := eq_true h5
            have e6 := eq_false h6
            simp only [zEV, zGS, Nat.reduceShiftRight, Nat.reduceMod, Nat.reduceEqDiff, Nat.reduceAdd, ↓reduceIte, reduceCtorEq, h1, h2, e3, e4, e5, e6]
            refine go_drawT _ _ (by kernel_rfl) ?_
            refine goS_keep _ fun s2 hh hn => ?_
            simp only [zEV, zGS, Nat.reduceShiftRight, Nat.reduceMod, Nat.reduceEqDiff, Nat.reduceAdd, ↓reduceIte, reduceCtorEq, q1, hres]
            exact hK _
          · have e5 := eq_false h5
            simp only [zEV, zGS, Nat.reduceShiftRight, Nat.reduceMod, Nat.reduceEqDiff, Nat.reduceAdd, ↓reduceIte, reduceCtorEq, h1, h2, e3, e4, e5]
            refine go_drawT _ _ (by kernel_rfl) ?_
            refine goS_keep _ fun s2 hh hn => ?_
            simp only [zEV, zGS, Nat.reduceShiftRight, Nat.reduceMod, Nat.reduceEqDiff, Nat.reduceAdd, ↓reduceIte, reduceCtorEq, q1, hres]
            exact hK _
        · have e3 := eq_false h3
          by_cases h5 : b = -9223372036854775808
          · have h6 : ¬ a = -1 := fun h => hc2 ⟨h5, h⟩
            have e5 := eq_true h5
            have e6 := eq_false h6
            simp only [zEV, zGS, Nat.reduceShiftRight, Nat.reduceMod, Nat.reduceEqDiff, Nat.reduceAdd, ↓reduceIte, reduceCtorEq, h1, h2, e3, e5, e6]
            refine go_drawT _ _ (by kernel_rfl) ?_
            refine goS_keep _ fun s2 hh hn => ?_
            simp only [zEV, zGS, Nat.reduceShiftRight, Nat.reduceMod, Nat.reduceEqDiff, Nat.reduceAdd, ↓reduceIte, reduceCtorEq, q1, hres]
            exact hK _
          · have e5 := eq_false h5
            simp only [zEV, zGS, Nat.reduceShiftRight, Nat.reduceMod, Nat.reduceEqDiff, Nat.reduceAdd, ↓reduceIte, reduceCtorEq, h1, h2, e3, e5]
            refine go_drawT _ _ (by kernel_rfl) ?_
            refine goS_keep _ fun s2 hh hn => ?_
            simp only [zEV, zGS, Nat.reduceShiftRight, Nat.reduceMod, Nat.reduceEqDiff, Nat.reduceAdd, ↓reduceIte, reduceCtorEq, q1, hres]
            exact hK _
theorem bool1 : (true == false) = false := rfl
theorem bool2 : (false == true) = false := rfl
theorem bool3 : (true != false) = true := rfl
theorem bool4 : (false != true) = true := rfl
theorem two22 (X : T Ext) (hX : (En X).ext.get 22 = none) (hX1 : (En X).ext.get 21 = none) (hX2 : (En X).ext.get 37 = none) (op : List UInt8) (a b : Int) (s : St) (K : V → St → Prop) (hK : ∀ s', K (pvP (twoF op a b)).toV s') :
    goC (En X) 22 [.c (.str (Str.ofL op)), .c (.int .i64 a), .c (.int .i64 b)] s K := by
  refine goC_body hX (kp22 X) (fn22 X) rfl (by kernel_rfl) ?_
  have hres : Tryd.f22.results.toList = [.tmp 6, .tmp 7] := rfl
  unfold twoF at hK
  by_cases h0 : op = [43]
  · rw [if_pos h0] at hK
    have y0 : (op == ([43] : List UInt8)) = true := by simpa using h0
    by_cases ha : 0 ≤ a <;> by_cases hb : 0 ≤ b <;> by_cases hc : 0 ≤ wrapK .i64 (a + b) <;>
    · have ea := ha
      have eb := hb
      have ec := hc
      simp only [wr, ha, hb, hc, decide_true, decide_false] at hK
      simp only [zEV, zGS, Nat.reduceShiftRight, Nat.reduceMod, Nat.reduceEqDiff, Nat.reduceAdd, ↓reduceIte, reduceCtorEq, lit_o43, y0, ha, hb, hc, b_bneq, b_beql, bne_self_eq_false, beq_self_eq_true, bool1, bool2, bool3, bool4, hres]
      exact hK _
  rw [if_neg h0] at hK
  have n0 : (op == ([43] : List UInt8)) = false := by simpa using h0
  by_cases h1 : op = [45]
  · rw [if_pos h1] at hK
    have y1 : (op == ([45] : List UInt8)) = true := by simpa using h1
    by_cases ha : 0 ≤ a <;> by_cases hb : 0 ≤ b <;> by_cases hc : 0 ≤ wrapK .i64 (a - b) <;>
    · have ea := ha
      have eb := hb
      have ec := hc
      simp only [wr, ha, hb, hc, decide_true, decide_false] at hK
      simp only [zEV, zGS, Nat.reduceShiftRight, Nat.reduceMod, Nat.reduceEqDiff, Nat.reduceAdd, ↓reduceIte, reduceCtorEq, lit_o43, lit_o45, n0, y1, ha, hb, hc, b_bneq, b_beql, bne_self_eq_false, beq_self_eq_true, bool1, bool2, bool3, bool4, hres]
      exact hK _
  rw [if_neg h1] at hK
  have n1 : (op == ([45] : List UInt8)) = false := by simpa using h1
  by_cases h2 : op = [42]
  · rw [if_pos h2] at hK
    have y2 : (op == ([42] : List UInt8)) = true := by simpa using h2
    simp only [zEV, zGS, Nat.reduceShiftRight, Nat.reduceMod, Nat.reduceEqDiff, Nat.reduceAdd, ↓reduceIte, reduceCtorEq, lit_o43, lit_o45, lit_o42, n0, n1, y2]
    refine go_call _ _ _ _ _ _ (ws := [.c (.int .i64 a), .c (.int .i64 b)]) rfl (by simp only [zEA, Nat.reduceShiftRight, Nat.reduceMod, Nat.reduceEqDiff, Nat.reduceAdd, ↓reduceIte, reduceCtorEq, argsOf_cons, argsOf_nil]) ?_
    refine times37 X hX2 a b _ _ fun s2 => ?_
    simp only [pvP, PV.toV, PW.toW, List.map_cons, List.map_nil, D.toC] at hK ⊢
    simp only [zEV, zGS, Nat.reduceShiftRight, Nat.reduceMod, Nat.reduceEqDiff, Nat.reduceAdd, ↓reduceIte, reduceCtorEq, hres]
    exact hK _
  rw [if_neg h2] at hK
  have n2 : (op == ([42] : List UInt8)) = false := by simpa using h2
  by_cases h3 : op = [47]
  · rw [if_pos h3] at hK
    have y3 : (op == ([47] : List UInt8)) = true := by simpa using h3
    by_cases hb : b = 0
    · rw [if_pos (.inl hb)] at hK
      have e1 := eq_true hb
      simp only [zEV, zGS, Nat.reduceShiftRight, Nat.reduceMod, Nat.reduceEqDiff, Nat.reduceAdd, ↓reduceIte, reduceCtorEq, lit_o43, lit_o45, lit_o42, lit_o47, n0, n1, n2, y3, e1, hres]
      exact hK _
    · have e1 := eq_false hb
      have q1 := fun ox oy => b_quoI (En X) 2 ox oy a b hb
      by_cases ha : a = -9223372036854775808
      · have e2 := eq_true ha
        by_cases hc : b = -1
        · rw [if_pos (.inr ⟨ha, hc⟩)] at hK
          have e3 := eq_true hc
          simp only [zEV, zGS, Nat.reduceShiftRight, Nat.reduceMod, Nat.reduceEqDiff, Nat.reduceAdd, ↓reduceIte, reduceCtorEq, lit_o43, lit_o45, lit_o42, lit_o47, n0, n1, n2, y3, e1, e2, e3, hres]
          exact hK _
        · rw [if_neg (fun h => h.elim hb (fun h => hc h.2))] at hK
          have e3 := eq_false hc
          simp only [zEV, zGS, Nat.reduceShiftRight, Nat.reduceMod, Nat.reduceEqDiff, Nat.reduceAdd, ↓reduceIte, reduceCtorEq, lit_o43, lit_o45, lit_o42, lit_o47, n0, n1, n2, y3, e1, e2, e3, q1, hres]
          exact hK _
      · rw [if_neg (fun h => h.elim hb (fun h => ha h.1))] at hK
        have e2 := eq_false ha
        simp only [zEV, zGS, Nat.reduceShiftRight, Nat.reduceMod, Nat.reduceEqDiff, Nat.reduceAdd, ↓reduceIte, reduceCtorEq, lit_o43, lit_o45, lit_o42, lit_o47, n0, n1, n2, y3, e1, e2, q1, hres]
        exact hK _
  rw [if_neg h3] at hK
  have n3 : (op == ([47] : List UInt8)) = false := by simpa using h3
  by_cases h4 : op = [37]
  · rw [if_pos h4] at hK
    have y4 : (op == ([37] : List UInt8)) = true := by simpa using h4
    by_cases hb : b = 0
    · rw [if_pos hb] at hK
      have e1 := eq_true hb
      simp only [zEV, zGS, Nat.reduceShiftRight, Nat.reduceMod, Nat.reduceEqDiff, Nat.reduceAdd, ↓reduceIte, reduceCtorEq, lit_o43, lit_o45, lit_o42, lit_o47, lit_o37, n0, n1, n2, n3, y4, e1, hres]
      exact hK _
    · have e1 := eq_false hb
      have q1 := fun ox oy => b_remI (En X) 2 ox oy a b hb
      rw [if_neg hb] at hK
      simp only [zEV, zGS, Nat.reduceShiftRight, Nat.reduceMod, Nat.reduceEqDiff, Nat.reduceAdd, ↓reduceIte, reduceCtorEq, lit_o43, lit_o45, lit_o42, lit_o47, lit_o37, n0, n1, n2, n3, y4, e1, q1, hres]
      exact hK _
  rw [if_neg h4] at hK
  have n4 : (op == ([37] : List UInt8)) = false := by simpa using h4
  by_cases h5 : op = [60]
  · rw [if_pos h5] at hK
    have y5 : (op == ([60] : List UInt8)) = true := by simpa using h5
    simp only [zEV, zGS, Nat.reduceShiftRight, Nat.reduceMod, Nat.reduceEqDiff, Nat.reduceAdd, ↓reduceIte, reduceCtorEq, lit_o43, lit_o45, lit_o42, lit_o47, lit_o37, lit_o60, n0, n1, n2, n3, n4, y5]
    refine go_call _ _ _ _ _ _ (ws := [.c (.bool (decide (a < b)))]) rfl (by simp only [zEA, Nat.reduceShiftRight, Nat.reduceMod, Nat.reduceEqDiff, Nat.reduceAdd, ↓reduceIte, reduceCtorEq, argsOf_cons, argsOf_nil]) ?_
    refine bit21 X hX1 (decide (a < b)) _ _ fun s2 => ?_
    simp only [pvP, PV.toV, PW.toW, List.map_cons, List.map_nil, D.toC] at hK ⊢
    simp only [zEV, zGS, Nat.reduceShiftRight, Nat.reduceMod, Nat.reduceEqDiff, Nat.reduceAdd, ↓reduceIte, reduceCtorEq, hres]
    exact hK _
  rw [if_neg h5] at hK
  have n5 : (op == ([60] : List UInt8)) = false := by simpa using h5
  by_cases h6 : op = [60, 61]
  · rw [if_pos h6] at hK
    have y6 : (op == ([60, 61] : List UInt8)) = true := by simpa using h6
    simp only [zEV, zGS, Nat.reduceShiftRight, Nat.reduceMod, Nat.reduceEqDiff, Nat.reduceAdd, ↓reduceIte, reduceCtorEq, lit_o43, lit_o45, lit_o42, lit_o47, lit_o37, lit_o60, lit_o60_61, n0, n1, n2, n3, n4, n5, y6]
    refine go_call _ _ _ _ _ _ (ws := [.c (.bool (decide (a ≤ b)))]) rfl (by simp only [zEA, Nat.reduceShiftRight, Nat.reduceMod, Nat.reduceEqDiff, Nat.reduceAdd, ↓reduceIte, reduceCtorEq, argsOf_cons, argsOf_nil]) ?_
    refine bit21 X hX1 (decide (a ≤ b)) _ _ fun s2 => ?_
    simp only [pvP, PV.toV, PW.toW, List.map_cons, List.map_nil, D.toC] at hK ⊢
    simp only [zEV, zGS, Nat.reduceShiftRight, Nat.reduceMod, Nat.reduceEqDiff, Nat.reduceAdd, ↓reduceIte, reduceCtorEq, hres]
    exact hK _
  rw [if_neg h6] at hK
  have n6 : (op == ([60, 61] : List UInt8)) = false := by simpa using h6
  by_cases h7 : op = [62]
  · rw [if_pos h7] at hK
    have y7 : (op == ([62] : List UInt8)) = true := by simpa using h7
    simp only [zEV, zGS, Nat.reduceShiftRight, Nat.reduceMod, Nat.reduceEqDiff, Nat.reduceAdd, ↓reduceIte, reduceCtorEq, lit_o43, lit_o45, lit_o42, lit_o47, lit_o37, lit_o60, lit_o60_61, lit_o62, n0, n1, n2, n3, n4, n5, n6, y7]
    refine go_call _ _ _ _ _ _ (ws := [.c (.bool (decide (b < a)))]) rfl (by simp only [zEA, Nat.reduceShiftRight, Nat.reduceMod, Nat.reduceEqDiff, Nat.reduceAdd, ↓reduceIte, reduceCtorEq, argsOf_cons, argsOf_nil]) ?_
    refine bit21 X hX1 (decide (b < a)) _ _ fun s2 => ?_
    simp only [pvP, PV.toV, PW.toW, List.map_cons, List.map_nil, D.toC] at hK ⊢
    simp only [zEV, zGS, Nat.reduceShiftRight, Nat.reduceMod, Nat.reduceEqDiff, Nat.reduceAdd, ↓reduceIte, reduceCtorEq, hres]
    exact hK _
  rw [if_neg h7] at hK
  have n7 : (op == ([62] : List UInt8)) = false := by simpa using h7
  by_cases h8 : op = [62, 61]
  · rw [if_pos h8] at hK
    have y8 : (op == ([62, 61] : List UInt8)) = true := by simpa using h8
    simp only [zEV, zGS, Nat.reduceShiftRight, Nat.reduceMod, Nat.reduceEqDiff, Nat.reduceAdd, ↓reduceIte, reduceCtorEq, lit_o43, lit_o45, lit_o42, lit_o47, lit_o37, lit_o60, lit_o60_61, lit_o62, lit_o62_61, n0, n1, n2, n3, n4, n5, n6, n7, y8]
    refine go_call _ _ _ _ _ _ (ws := [.c (.bool (decide (b ≤ a)))]) rfl (by simp only [zEA, Nat.reduceShiftRight, Nat.reduceMod, Nat.reduceEqDiff, Nat.reduceAdd, ↓reduceIte, reduceCtorEq, argsOf_cons, argsOf_nil]) ?_
    refine bit21 X hX1 (decide (b ≤ a)) _ _ fun s2 => ?_
    simp only [pvP, PV.toV, PW.toW, List.map_cons, List.map_nil, D.toC] at hK ⊢
    simp only [zEV, zGS, Nat.reduceShiftRight, Nat.reduceMod, Nat.reduceEqDiff, Nat.reduceAdd, ↓reduceIte, reduceCtorEq, hres]
    exact hK _
  rw [if_neg h8] at hK
  have n8 : (op == ([62, 61] : List UInt8)) = false := by simpa using h8
  by_cases h9 : op = [61, 61]
  · rw [if_pos h9] at hK
    have y9 : (op == ([61, 61] : List UInt8)) = true := by simpa using h9
    simp only [zEV, zGS, Nat.reduceShiftRight, Nat.reduceMod, Nat.reduceEqDiff, Nat.reduceAdd, ↓reduceIte, reduceCtorEq, lit_o43, lit_o45, lit_o42, lit_o47, lit_o37, lit_o60, lit_o60_61, lit_o62, lit_o62_61, lit_o61_61, n0, n1, n2, n3, n4, n5, n6, n7, n8, y9]
    refine go_call _ _ _ _ _ _ (ws := [.c (.bool (decide (a = b)))]) rfl (by simp only [zEA, Nat.reduceShiftRight, Nat.reduceMod, Nat.reduceEqDiff, Nat.reduceAdd, ↓reduceIte, reduceCtorEq, argsOf_cons, argsOf_nil]) ?_
    refine bit21 X hX1 (decide (a = b)) _ _ fun s2 => ?_
    simp only [pvP, PV.toV, PW.toW, List.map_cons, List.map_nil, D.toC] at hK ⊢
    simp only [zEV, zGS, Nat.reduceShiftRight, Nat.reduceMod, Nat.reduceEqDiff, Nat.reduceAdd, ↓reduceIte, reduceCtorEq, hres]
    exact hK _
  rw [if_neg h9] at hK
  have n9 : (op == ([61, 61] : List UInt8)) = false := by simpa using h9
  simp only [zEV, zGS, Nat.reduceShiftRight, Nat.reduceMod, Nat.reduceEqDiff, Nat.reduceAdd, ↓reduceIte, reduceCtorEq, lit_o43, lit_o45, lit_o42, lit_o47, lit_o37, lit_o60, lit_o60_61, lit_o62, lit_o62_61, lit_o61_61, n0, n1, n2, n3, n4, n5, n6, n7, n8, n9]
  refine go_call _ _ _ _ _ _ (ws := [.c (.bool (!decide (a = b)))]) rfl (by simp only [zEA, Nat.reduceShiftRight, Nat.reduceMod, Nat.reduceEqDiff, Nat.reduceAdd, ↓reduceIte, reduceCtorEq, argsOf_cons, argsOf_nil]) ?_
  refine bit21 X hX1 (!decide (a = b)) _ _ fun s2 => ?_
  simp only [pvP, PV.toV, PW.toW, List.map_cons, List.map_nil, D.toC] at hK ⊢
  simp only [zEV, zGS, Nat.reduceShiftRight, Nat.reduceMod, Nat.reduceEqDiff, Nat.reduceAdd, ↓reduceIte, reduceCtorEq, hres]
  exact hK _
def RTwo (ps : List PW) (v : PV) : Prop := ∃ op a b, ps = [.c (.str (Str.ofL op)), .c (.int .i64 a), .c (.int .i64 b)] ∧ v = pvP (twoF op a b)
noncomputable def e22 : Nat × Ext := (22, .fn (ofG RTwo) [])
theorem c22 : Ok e22 := fn_of_go_g (exts := []) ok0 rfl [] rfl _ (by
  rintro ps pv ⟨op, a, b, rfl, rfl⟩
  exact two22 _ rfl rfl rfl op a b _ _ fun s' => ⟨[], rfl⟩)
theorem callR_two {X : T Ext} (h22 : (En X).ext.get 22 = some (.fn (ofG RTwo) [])) (op : List UInt8) (a b : Int) (s : St) : CallR (En X) 22 [.c (.str (Str.ofL op)), .c (.int .i64 a), .c (.int .i64 b)] s (pvP (twoF op a b)).toV s :=
  callR_fn (ps := [.c (.str (Str.ofL op)), .c (.int .i64 a), .c (.int .i64 b)]) (pv := pvP (twoF op a b)) h22 (ofG_eq ⟨op, a, b, rfl, rfl⟩ (by
    rintro v' ⟨o', a', b', h1, rfl⟩
    simp only [List.cons.injEq, PW.c.injEq, D.str.injEq, D.int.injEq, true_and, and_true] at h1
    obtain ⟨h1, rfl, rfl⟩ := h1
    rw [ofL_inj h1])) rfl
end Ar
