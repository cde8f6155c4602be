import Derived.Test.YtaapmoclinjefaaDoorArI
import Derived.Test.YtaapmoclinjefaaDoorEwL
namespace Ar
open Go Go.Proofs Ev Go.Lib Nu
set_option linter.unusedVariables false
set_option linter.unusedSimpArgs false
set_option linter.unnecessarySimpa false
set_option maxRecDepth 100000
theorem tw_le (p : Nat → Bool) : ∀ l, (tw p l).length ≤ l.length
  | [] => Nat.le_refl _
  | c :: l => by
    have := tw_le p l
    unfold tw at this ⊢
    rw [List.takeWhile_cons]
    split <;> simp <;> omega
theorem tw_step (p : Nat → Bool) : ∀ (l : List UInt8) (i : Nat) (c : UInt8), i ≤ (tw p l).length → l[i]? = some c → (p c.toNat = true → i + 1 ≤ (tw p l).length) ∧ (p c.toNat = false → (tw p l).length = i)
  | [], i, c, _, h => by simp at h
  | a :: l, 0, c, _, h => by
    simp at h
    subst h
    unfold tw
    rw [List.takeWhile_cons]
    constructor
    · intro h; rw [if_pos h]; simp
    · intro h; rw [if_neg (by rw [h]; simp)]; rfl
  | a :: l, i + 1, c, hi, h => by
    have hp : p a.toNat = true := by
      cases hp : p a.toNat with
      | true => rfl
      | false => unfold tw at hi; rw [List.takeWhile_cons, if_neg (by rw [hp]; simp)] at hi; simp at hi
    have e : tw p (a :: l) = a :: tw p l := by unfold tw; rw [List.takeWhile_cons, if_pos hp]
    rw [e] at hi ⊢
    have := tw_step p l i c (by simpa using hi) (by simpa using h)
    simp only [List.length_cons]
    exact ⟨fun h => by have := this.1 h; omega, fun h => by have := this.2 h; omega⟩
theorem run58 (X : T Ext) (hX : (En X).ext.get 58 = none) {g : Nat} {p : Nat → Bool} (hg : (En X).ext.get g = some (.fn (ofG (RB1 .u8 p)) [])) (l : List UInt8) (hl : l.length ≤ 140737488351232) (s : St) (K : V → St → Prop) (hK : ∀ s', K (.w (.c (.int .i64 (Int.ofNat (tw p l).length)))) s') :
    goC (En X) 58 [.c (.str (Str.ofL l)), .c (.fn g [])] s K := by
  refine goC_body hX (kp58 X) (fn58 X) rfl (by kernel_rfl) ?_
  have hres : Tryd.f58.results.toList = [.tmp 4] := rfl
  simp only [zEV, Nat.reduceShiftRight, Nat.reduceMod, Nat.reduceEqDiff, Nat.reduceAdd, ↓reduceIte, reduceCtorEq]
  refine go_loop (goL_inv (fun n a' s' => ∃ i, n = l.length - i ∧ i ≤ (tw p l).length ∧ Has a' 0 (vc (.str (Str.ofL l))) ∧ Has a' 1 (vc (.fn g [])) ∧ Has a' 5 (vc (.int .i64 (Int.ofNat i)))) (n := l.length)
    ⟨0, rfl, Nat.zero_le _, ⟨rfl, rfl⟩, ⟨rfl, rfl⟩, ⟨rfl, rfl⟩⟩ ?_)
  rintro n a' s' ⟨i, rfl, hi, ⟨g0, k0⟩, ⟨g1, k1⟩, ⟨g5, k5⟩⟩
  have hle := tw_le p l
  by_cases hlt : i < l.length
  · have hlt' : (Int.ofNat i < Int.ofNat l.length) = True := eq_true (Int.ofNat_lt.2 hlt)
    obtain ⟨c, hc⟩ : ∃ c, l[i]? = some c := ⟨_, List.getElem?_eq_getElem hlt⟩
    have hix := index_str X l hc
    have hst := tw_step p l i c hi hc
    have hsu := nat_succ (show i < 9223372036854775807 by omega)
    simp only [zEV, Nat.reduceShiftRight, Nat.reduceMod, Nat.reduceEqDiff, Nat.reduceAdd, ↓reduceIte, reduceCtorEq, g0, k0, g1, k1, g5, k5, len_str, hlt', rIndex_eq, hix]
    refine go_call _ _ _ _ _ _ (g := g) (cap := []) (ws := [.c (.int .u8 (Int.ofNat c.toNat))]) (by simp only [zEV, Nat.reduceShiftRight, Nat.reduceMod, Nat.reduceEqDiff, Nat.reduceAdd, ↓reduceIte, reduceCtorEq, g0, k0, g1, k1, g5, k5]) (by simp only [zEV, Nat.reduceShiftRight, Nat.reduceMod, Nat.reduceEqDiff, Nat.reduceAdd, ↓reduceIte, reduceCtorEq, g0, k0, g1, k1, g5, k5, argsOf_cons, argsOf_nil]) ?_
    refine goC_of (callR_B1 hg c.toNat_lt _) ?_
    cases hp : p c.toNat with
    | true =>
      have h1 := hst.1 hp
      simp only [zEV, Nat.reduceShiftRight, Nat.reduceMod, Nat.reduceEqDiff, Nat.reduceAdd, ↓reduceIte, reduceCtorEq, g0, k0, g1, k1, g5, k5, hp, hsu]
      refine ⟨_, ?_, i + 1, rfl, h1, ⟨?_, ?_⟩, ⟨?_, ?_⟩, ⟨?_, ?_⟩⟩
      all_goals first | (simp only [zEA, Nat.reduceShiftRight, Nat.reduceMod, Nat.reduceEqDiff, Nat.reduceAdd, ↓reduceIte, reduceCtorEq, g0, k0, g1, k1, g5, k5]; done) | omega
    | false =>
      have h1 := hst.2 hp
      rw [h1] at hK
      simp only [zEV, Nat.reduceShiftRight, Nat.reduceMod, Nat.reduceEqDiff, Nat.reduceAdd, ↓reduceIte, reduceCtorEq, g0, k0, g1, k1, g5, k5, hp, hres]
      exact hK _
  · have hlt' : (Int.ofNat i < Int.ofNat l.length) = False := eq_false (fun h => hlt (Int.ofNat_lt.1 h))
    have h1 : (tw p l).length = i := by omega
    rw [h1] at hK
    simp only [zEV, Nat.reduceShiftRight, Nat.reduceMod, Nat.reduceEqDiff, Nat.reduceAdd, ↓reduceIte, reduceCtorEq, g0, k0, g1, k1, g5, k5, len_str, hlt', hres]
    exact hK _
def RRun (ps : List PW) (v : PV) : Prop := ∃ l : List UInt8, l.length ≤ 140737488351232 ∧ ((ps = [.c (.str (Str.ofL l)), .c (.fn 59)] ∧ v = .w (.c (.int .i64 (Int.ofNat (tw digN l).length)))) ∨ (ps = [.c (.str (Str.ofL l)), .c (.fn 61)] ∧ v = .w (.c (.int .i64 (Int.ofNat (tw moreN l).length)))))
noncomputable def e58 : Nat × Ext := (58, .fn (ofG RRun) [])
theorem c58 : Ok e58 := fn_of_go_g (exts := [(59, .fn (ofG (RB1 .u8 digN)) []), (61, .fn (ofG (RB1 .u8 moreN)) [])]) (ok1 c59 (ok1 c61 ok0)) rfl [] rfl _ (by
  rintro ps pv ⟨l, hl, ⟨rfl, rfl⟩ | ⟨rfl, rfl⟩⟩
  · exact run58 _ rfl (g := 59) (p := digN) rfl l hl _ _ fun s' => ⟨[], rfl⟩
  · exact run58 _ rfl (g := 61) (p := moreN) rfl l hl _ _ fun s' => ⟨[], rfl⟩)
theorem callR_runD {X : T Ext} (h : (En X).ext.get 58 = some (.fn (ofG RRun) [])) (l : List UInt8) (hl : l.length ≤ 140737488351232) (s : St) : CallR (En X) 58 [.c (.str (Str.ofL l)), .c (.fn 59 [])] s (.w (.c (.int .i64 (Int.ofNat (tw digN l).length)))) s :=
  callR_fn (ps := [.c (.str (Str.ofL l)), .c (.fn 59)]) (pv := .w (.c (.int .i64 (Int.ofNat (tw digN l).length)))) h (ofG_eq ⟨l, hl, .inl ⟨rfl, rfl⟩⟩ (by
    rintro v' ⟨l', _, ⟨h1, rfl⟩ | ⟨h1, rfl⟩⟩
    · rw [str_one h1]
    · simp at h1)) rfl
theorem callR_runM {X : T Ext} (h : (En X).ext.get 58 = some (.fn (ofG RRun) [])) (l : List UInt8) (hl : l.length ≤ 140737488351232) (s : St) : CallR (En X) 58 [.c (.str (Str.ofL l)), .c (.fn 61 [])] s (.w (.c (.int .i64 (Int.ofNat (tw moreN l).length)))) s :=
  callR_fn (ps := [.c (.str (Str.ofL l)), .c (.fn 61)]) (pv := .w (.c (.int .i64 (Int.ofNat (tw moreN l).length)))) h (ofG_eq ⟨l, hl, .inr ⟨rfl, rfl⟩⟩ (by
    rintro v' ⟨l', _, ⟨h1, rfl⟩ | ⟨h1, rfl⟩⟩
    · simp at h1
    · rw [str_one h1])) rfl
theorem cut60 (X : T Ext) (hX : (En X).ext.get 60 = none) (l : List UInt8) (n : Nat) (hn : n ≤ l.length) (bd : Bool) (b : Nat) (s : St) (K : V → St → Prop) (hr : LRow s b (cellsD (prD l bd)))
    (hK : ∀ s' : St, LRow s' b (cellsD (prD (l.drop n) bd)) → K (.w (.c (.str (Str.ofL (l.take n))))) s') : goC (En X) 60 [.c (.ptr b 0), .c (.int .i64 (Int.ofNat n))] s K := by
  refine goC_body hX (kp60 X) (fn60 X) rfl (by kernel_rfl) ?_
  have hres : Tryd.f60.results.toList = [.tmp 4] := rfl
  have c0 := pr0 hr
  have t1 : ∀ look, slice (En X) 9 (.str (Str.ofL l)) none (some (.int .i64 (Int.ofNat n))) none look = some (.str (Str.ofL (l.take n))) := fun look => slice_stake (ustr9 X) look l hn
  have t2 : ∀ look, slice (En X) 9 (.str (Str.ofL l)) (some (.int .i64 (Int.ofNat n))) none none look = some (.str (Str.ofL (l.drop n))) := fun look => slice_sdrop (ustr9 X) look l hn
  obtain ⟨s2, w1, r1, n1, f1⟩ := pr_set0 hr (l.drop n)
  have hl1 : ([.str (Str.ofL (l.drop n))] : List C).length = 1 := rfl
  simp only [zEV, Nat.reduceShiftRight, Nat.reduceMod, Nat.reduceEqDiff, Nat.reduceAdd, ↓reduceIte, reduceCtorEq, lit_0, rNil_eq, fA_36_0, ldh9, c0, rSlice_lo, rSlice_hi, t1, t2, st9, hl1, w1, hres]
  exact hK _ r1
def RCut (ds : List D) (ps : List PW) (v : PV × List D) : Prop := ∃ l b n, ds = prD l b ∧ ps = [.c (.int .i64 (Int.ofNat n))] ∧ n ≤ l.length ∧ v = (.w (.c (.str (Str.ofL (l.take n)))), prD (l.drop n) b)
noncomputable def e60 : Nat × Ext := (60, .me (ofM RCut) [])
theorem c60 : Ok e60 := me_goE (exts := []) Ak.any_ok types_ok fns_ok ok0 RCut (fun _ _ _ _ x hx => by cases hx) (by
  rintro ds ps pv ds' ⟨l, b, n, rfl, rfl, hn, h⟩
  cases h
  exact cut60 _ rfl l n hn b _ _ _ (stM_LRow _ _) fun s' hr => meK (bs := []) rfl (fun h => by cases h) hr)
theorem callR_cut {X : T Ext} (h60 : (En X).ext.get 60 = some (.me (ofM RCut) [])) {l : List UInt8} {n : Nat} (hn : n ≤ l.length) {bd : Bool} {b : Nat} {s : St} (hr : LRow s b (cellsD (prD l bd))) :
    ∃ s2, CallR (En X) 60 [.c (.ptr b 0), .c (.int .i64 (Int.ofNat n))] s (.w (.c (.str (Str.ofL (l.take n))))) s2 ∧ LRow s2 b (cellsD (prD (l.drop n) bd)) ∧ s2.nx = s.nx ∧ ∀ x, x ≠ b → s2.h.get x = s.h.get x :=
  callR_me (ps := [.c (.int .i64 (Int.ofNat n))]) (pv := .w (.c (.str (Str.ofL (l.take n))))) h60 hr rfl rfl ⟨l, bd, n, rfl, rfl, hn, rfl⟩ (by
    rintro v ⟨l', b', n', h1, h2, _, rfl⟩
    obtain ⟨rfl, rfl⟩ := pr_inj h1
    simp only [List.cons.injEq, PW.c.injEq, D.int.injEq, true_and, and_true] at h2
    have h2 : ((n : Nat) : Int) = (n' : Int) := h2
    obtain rfl : n = n' := by omega
    rfl) rfl
end Ar

namespace Ar
open Go Go.Proofs Ev Go.Lib Nu
set_option linter.unusedVariables false
set_option linter.unusedSimpArgs false
set_option linter.unnecessarySimpa false
set_option maxRecDepth 100000
theorem aNext_eq (a : A) (x : Operand) (b : Bool) (s : St) : aNext a x b s = match opC a x with
  | some c => next c b s
  | none => .no := rfl
theorem next_at {s : St} {r i : Nat} {z : Str} (h : s.h.get r = some (.iter z i)) (hi : i < z.len) : next (.ptr r 0) true s = .ok (.tup [.c (.bool true), .c (.int .i64 (Int.ofNat i)), .c (.int .i32 (Int.ofNat (dec z i).1))]) ⟨s.h.set r (.iter z (i + (dec z i).2)), s.nx⟩ := by
  unfold next
  simp only [h]
  unfold nextI
  rw [show Nat.ble (Nat.succ i) z.len = true from nble_true hi]
  rfl
theorem next_end {s : St} {r i : Nat} {z : Str} (h : s.h.get r = some (.iter z i)) (hi : ¬ i < z.len) : next (.ptr r 0) true s = .ok (.tup [.c (.bool false)]) s := by
  unfold next
  simp only [h]
  unfold nextI
  rw [show Nat.ble (Nat.succ i) z.len = false from nble_false hi]
theorem nRange_eq (X : T Ext) (a : A) (x : Operand) (id : Nat) : nRange (En X) a 9 x id = match opC a x with
  | some (.str z) => some (vc (.ptr id 0), .iter z 0)
  | _ => none := by unfold nRange; rw [ustr9]; rfl
theorem dec_a {l : List UInt8} {i : Nat} {c : UInt8} (h : l[i]? = some c) (hc : c.toNat < 128) : dec (Str.ofL l) i = (c.toNat, 1) := by
  obtain ⟨hi, rfl⟩ := List.getElem?_eq_some_iff.1 h
  unfold dec
  rw [Str.at_ofL l i hi, show Nat.ble (Nat.succ (l[i]).toNat) 128 = true from nble_true hc]
  rfl
theorem next_a {s : St} {r i : Nat} {l : List UInt8} {c : UInt8} (h : s.h.get r = some (.iter (Str.ofL l) i)) (hc : l[i]? = some c) (h128 : c.toNat < 128) : next (.ptr r 0) true s = .ok (.tup [.c (.bool true), .c (.int .i64 (Int.ofNat i)), .c (.int .i32 (Int.ofNat c.toNat))]) ⟨s.h.set r (.iter (Str.ofL l) (i + 1)), s.nx⟩ := by
  have := next_at h (show i < l.length from (List.getElem?_eq_some_iff.1 hc).1)
  rwa [dec_a hc h128] at this
theorem iter_new (s : St) (z : Str) : (s.new (.iter z 0)).h.get s.nx = some (.iter z 0) := by
  rw [St.new_h]
  show (if s.nx = s.nx then _ else _) = _
  rw [if_pos rfl]
def asc (l : List UInt8) : Prop := ∀ c ∈ l, moreN c.toNat = true
theorem more_128 {n : Nat} (h : moreN n = true) : n < 128 := by
  unfold moreN firstN digN at h
  simp only [Bool.or_eq_true, Bool.and_eq_true, Nat.ble_eq, Nat.beq_eq] at h
  have h95 : Nat.beq n 95 = true → n = 95 := Nat.eq_of_beq_eq_true
  omega
theorem count80 (X : T Ext) (hX : (En X).ext.get 80 = none) (l : List UInt8) (ha : asc l) (hl : l.length ≤ 140737488351232) (s : St) (K : V → St → Prop) (hK : ∀ s', K (.w (.c (.int .i64 (Int.ofNat l.length)))) s') : goC (En X) 80 [.c (.str (Str.ofL l))] s K := by
  refine goC_body hX (kp80 X) (fn80 X) rfl (by kernel_rfl) ?_
  have hres : Tryd.f80.results.toList = [.tmp 2] := rfl
  have hit := iter_new s (Str.ofL l)
  simp only [zEV, Nat.reduceShiftRight, Nat.reduceMod, Nat.reduceEqDiff, Nat.reduceAdd, ↓reduceIte, reduceCtorEq, go_range, nRange_eq]
  generalize s.new (.iter (Str.ofL l) 0) = s1 at hit ⊢
  generalize hp : s.nx = p at *
  refine go_loop (goL_inv (fun n' a' s' => ∃ i, n' = l.length - i ∧ i ≤ l.length ∧ Has a' 3 (vc (.int .i64 (Int.ofNat i))) ∧ Has a' 5 (vc (.ptr p 0)) ∧ s'.h.get p = some (.iter (Str.ofL l) i)) (n := l.length)
    ⟨0, rfl, Nat.zero_le _, ⟨rfl, rfl⟩, ⟨rfl, rfl⟩, hit⟩ ?_)
  rintro n' a' s' ⟨i, rfl, hi, ⟨g3, k3⟩, ⟨g5, k5⟩, hs⟩
  by_cases hlt : i < l.length
  · obtain ⟨c, hc⟩ : ∃ c, l[i]? = some c := ⟨_, List.getElem?_eq_getElem hlt⟩
    have hn := next_a hs hc (more_128 (ha c (List.mem_of_getElem? hc)))
    have hsu := nat_succ (show i < 9223372036854775807 by omega)
    simp only [zEV, Nat.reduceShiftRight, Nat.reduceMod, Nat.reduceEqDiff, Nat.reduceAdd, ↓reduceIte, reduceCtorEq, g3, k3, g5, k5, go_next, aNext_eq, hn, hsu]
    refine ⟨_, ?_, i + 1, rfl, hlt, ⟨?_, ?_⟩, ⟨?_, ?_⟩, T.get_set_same _ _ _⟩
    all_goals first | (simp only [zEA, Nat.reduceShiftRight, Nat.reduceMod, Nat.reduceEqDiff, Nat.reduceAdd, ↓reduceIte, reduceCtorEq, g3, k3, g5, k5]; done) | omega
  · have hn := next_end hs hlt
    obtain rfl : i = l.length := by omega
    simp only [zEV, Nat.reduceShiftRight, Nat.reduceMod, Nat.reduceEqDiff, Nat.reduceAdd, ↓reduceIte, reduceCtorEq, g3, k3, g5, k5, go_next, aNext_eq, hn, hres]
    exact hK _
theorem name63 (X : T Ext) (hX : (En X).ext.get 63 = none) (hX1 : (En X).ext.get 80 = none) (h62 : (En X).ext.get 62 = some (.fn (ofG (RB1 .i32 moreN)) [])) (h79 : (En X).ext.get 79 = some (.fn (ofG (RB1 .i32 firstN)) [])) (l : List UInt8) (ha : asc l) (hl : l.length ≤ 140737488351232) (s : St) (K : V → St → Prop)
    (hK : ∀ s', K (.w (.c (.bool (nameB l)))) s') : goC (En X) 63 [.c (.str (Str.ofL l))] s K := by
  refine goC_body hX (kp63 X) (fn63 X) rfl (by kernel_rfl) ?_
  have hres : Tryd.f63.results.toList = [.tmp 2] := rfl
  have hit := iter_new s (Str.ofL l)
  simp only [zEV, Nat.reduceShiftRight, Nat.reduceMod, Nat.reduceEqDiff, Nat.reduceAdd, ↓reduceIte, reduceCtorEq, go_range, nRange_eq]
  generalize s.new (.iter (Str.ofL l) 0) = s1 at hit ⊢
  generalize hp : s.nx = p at *
  refine go_loop (goL_inv (fun n' a' s' => ∃ i, n' = l.length - i ∧ i ≤ l.length ∧ Has a' 0 (vc (.str (Str.ofL l))) ∧ Has a' 6 (vc (.ptr p 0)) ∧ s'.h.get p = some (.iter (Str.ofL l) i) ∧ (∀ c, 0 < i → l[0]? = some c → firstN c.toNat = true)) (n := l.length)
    ⟨0, rfl, Nat.zero_le _, ⟨rfl, rfl⟩, ⟨rfl, rfl⟩, hit, fun c h => by omega⟩ ?_)
  rintro n' a' s' ⟨i, rfl, hi, ⟨g0, k0⟩, ⟨g6, k6⟩, hs, hf⟩
  by_cases hlt : i < l.length
  · obtain ⟨c, hc⟩ : ∃ c, l[i]? = some c := ⟨_, List.getElem?_eq_getElem hlt⟩
    have hm := ha c (List.mem_of_getElem? hc)
    have hn := next_a hs hc (more_128 hm)
    cases i with
    | zero =>
      have h0 : (Int.ofNat 0 = 0) = True := eq_true rfl
      simp only [zEV, Nat.reduceShiftRight, Nat.reduceMod, Nat.reduceEqDiff, Nat.reduceAdd, ↓reduceIte, reduceCtorEq, g0, k0, g6, k6, go_next, aNext_eq, hn, h0]
      refine go_call _ _ _ _ _ _ (ws := [.c (.int .i32 (Int.ofNat c.toNat))]) rfl (by simp only [zEV, Nat.reduceShiftRight, Nat.reduceMod, Nat.reduceEqDiff, Nat.reduceAdd, ↓reduceIte, reduceCtorEq, g0, k0, g6, k6, argsOf_cons, argsOf_nil]) ?_
      refine goC_of (callR_B1 h79 c.toNat_lt _) ?_
      cases hq : firstN c.toNat with
      | true =>
        simp only [zEV, Nat.reduceShiftRight, Nat.reduceMod, Nat.reduceEqDiff, Nat.reduceAdd, ↓reduceIte, reduceCtorEq, g0, k0, g6, k6, hq]
        refine go_call _ _ _ _ _ _ (ws := [.c (.int .i32 (Int.ofNat c.toNat))]) rfl (by simp only [zEV, Nat.reduceShiftRight, Nat.reduceMod, Nat.reduceEqDiff, Nat.reduceAdd, ↓reduceIte, reduceCtorEq, g0, k0, g6, k6, argsOf_cons, argsOf_nil]) ?_
        refine goC_of (callR_B1 h62 c.toNat_lt _) ?_
        simp only [zEV, Nat.reduceShiftRight, Nat.reduceMod, Nat.reduceEqDiff, Nat.reduceAdd, ↓reduceIte, reduceCtorEq, g0, k0, g6, k6, hm]
        refine ⟨_, ?_, 1, rfl, hlt, ⟨?_, ?_⟩, ⟨?_, ?_⟩, T.get_set_same _ _ _, fun d _ hd => ?_⟩
        case refine_6 => rw [hc] at hd; cases hd; exact hq
        all_goals first | (simp only [zEA, Nat.reduceShiftRight, Nat.reduceMod, Nat.reduceEqDiff, Nat.reduceAdd, ↓reduceIte, reduceCtorEq, g0, k0, g6, k6]; done) | omega
      | false =>
        have hb : nameB l = false := by
          cases l with
          | nil => rfl
          | cons a r =>
            simp at hc
            subst hc
            unfold nameB
            simp only [hq, Bool.false_and]
        rw [hb] at hK
        simp only [zEV, Nat.reduceShiftRight, Nat.reduceMod, Nat.reduceEqDiff, Nat.reduceAdd, ↓reduceIte, reduceCtorEq, g0, k0, g6, k6, hq, hres]
        exact hK _
    | succ i =>
      have h0 : (Int.ofNat (i + 1) = 0) = False := eq_false (by show ¬ (((i + 1 : Nat) : Int) = 0); omega)
      simp only [zEV, Nat.reduceShiftRight, Nat.reduceMod, Nat.reduceEqDiff, Nat.reduceAdd, ↓reduceIte, reduceCtorEq, g0, k0, g6, k6, go_next, aNext_eq, hn, h0]
      refine go_call _ _ _ _ _ _ (ws := [.c (.int .i32 (Int.ofNat c.toNat))]) rfl (by simp only [zEV, Nat.reduceShiftRight, Nat.reduceMod, Nat.reduceEqDiff, Nat.reduceAdd, ↓reduceIte, reduceCtorEq, g0, k0, g6, k6, argsOf_cons, argsOf_nil]) ?_
      refine goC_of (callR_B1 h62 c.toNat_lt _) ?_
      simp only [zEV, Nat.reduceShiftRight, Nat.reduceMod, Nat.reduceEqDiff, Nat.reduceAdd, ↓reduceIte, reduceCtorEq, g0, k0, g6, k6, hm]
      refine ⟨_, ?_, i + 1 + 1, rfl, hlt, ⟨?_, ?_⟩, ⟨?_, ?_⟩, T.get_set_same _ _ _, fun d _ hd => hf d (by omega) hd⟩
      all_goals first | (simp only [zEA, Nat.reduceShiftRight, Nat.reduceMod, Nat.reduceEqDiff, Nat.reduceAdd, ↓reduceIte, reduceCtorEq, g0, k0, g6, k6]; done) | omega
  · have hn := next_end hs hlt
    simp only [zEV, Nat.reduceShiftRight, Nat.reduceMod, Nat.reduceEqDiff, Nat.reduceAdd, ↓reduceIte, reduceCtorEq, g0, k0, g6, k6, go_next, aNext_eq, hn]
    by_cases hz : l = []
    · subst hz
      have hb : (([] : List UInt8) == []) = true := rfl
      simp only [zEV, Nat.reduceShiftRight, Nat.reduceMod, Nat.reduceEqDiff, Nat.reduceAdd, ↓reduceIte, reduceCtorEq, g0, k0, g6, k6, lit_0, hb, hres]
      exact hK _
    · have hb : (l == []) = false := by simpa using hz
      simp only [zEV, Nat.reduceShiftRight, Nat.reduceMod, Nat.reduceEqDiff, Nat.reduceAdd, ↓reduceIte, reduceCtorEq, g0, k0, g6, k6, lit_0, hb]
      refine go_call _ _ _ _ _ _ (ws := [.c (.str (Str.ofL l))]) rfl (by simp only [zEV, Nat.reduceShiftRight, Nat.reduceMod, Nat.reduceEqDiff, Nat.reduceAdd, ↓reduceIte, reduceCtorEq, g0, k0, g6, k6, argsOf_cons, argsOf_nil]) ?_
      refine count80 X hX1 l ha hl _ _ fun s2 => ?_
      have hfin : decide (Int.ofNat l.length ≤ 12) = nameB l := by
        cases l with
        | nil => exact absurd rfl hz
        | cons c r =>
          have h1 := hf c (by simp at hlt; omega) rfl
          unfold nameB
          simp only [h1, Bool.true_and]
          rw [Bool.eq_iff_iff, decide_eq_true_eq, Nat.ble_eq]
          exact Int.ofNat_le
      simp only [zEV, Nat.reduceShiftRight, Nat.reduceMod, Nat.reduceEqDiff, Nat.reduceAdd, ↓reduceIte, reduceCtorEq, g0, k0, g6, k6, hfin, hres]
      exact hK _
def RName (ps : List PW) (v : PV) : Prop := ∃ l, asc l ∧ l.length ≤ 140737488351232 ∧ ps = [.c (.str (Str.ofL l))] ∧ v = .w (.c (.bool (nameB l)))
noncomputable def e63 : Nat × Ext := (63, .fn (ofG RName) [])
theorem c63 : Ok e63 := fn_of_go_g (exts := [(62, .fn (ofG (RB1 .i32 moreN)) []), (79, .fn (ofG (RB1 .i32 firstN)) [])]) (ok1 c62 (ok1 c79 ok0)) rfl [] rfl _ (by
  rintro ps pv ⟨l, ha, hl, rfl, rfl⟩
  exact name63 _ rfl rfl rfl rfl l ha hl _ _ fun s' => ⟨[], rfl⟩)
theorem callR_name {X : T Ext} (h : (En X).ext.get 63 = some (.fn (ofG RName) [])) {l : List UInt8} (ha : asc l) (hl : l.length ≤ 140737488351232) (s : St) : CallR (En X) 63 [.c (.str (Str.ofL l))] s (.w (.c (.bool (nameB l)))) s :=
  callR_fn (ps := [.c (.str (Str.ofL l))]) (pv := .w (.c (.bool (nameB l)))) h (ofG_eq ⟨l, ha, hl, rfl, rfl⟩ (by
    rintro v' ⟨l', _, _, h1, rfl⟩
    rw [str_one h1])) rfl
end Ar
