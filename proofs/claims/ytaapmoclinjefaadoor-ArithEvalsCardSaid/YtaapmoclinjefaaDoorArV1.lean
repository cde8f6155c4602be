import Derived.Test.YtaapmoclinjefaaDoorArRp
import Derived.Test.YtaapmoclinjefaaDoorArRa
import Derived.Test.YtaapmoclinjefaaDoorEwL
namespace Ar
open Go Go.Proofs Ev Go.Lib Nu
set_option linter.unusedVariables false
set_option linter.unusedSimpArgs false
set_option linter.unnecessarySimpa false
set_option maxRecDepth 100000
theorem rSlice_lh (E : Env) (look : Look) (a : A) (t : Nat) (x lo hi : Operand) : rSlice E look a t x (some lo) (some hi) none = match opC a x with
  | none => none
  | some c => match opC a lo with
    | none => none
    | some l => match opC a hi with
      | none => none
      | some h => retC (slice E t c (some l) (some h) none look) := by
  unfold rSlice
  simp only [optC]
  cases opC a x with
  | none => rfl
  | some c =>
    simp only []
    cases opC a lo with
    | none => rfl
    | some l =>
      simp only []
      cases opC a hi <;> rfl
theorem slice_smid (X : T Ext) (look : Look) (l : List UInt8) {i j : Nat} (hij : i ≤ j) (hj : j ≤ l.length) : slice (En X) 9 (.str (Str.ofL l)) (some (.int .i64 (Int.ofNat i))) (some (.int .i64 (Int.ofNat j))) none look = some (.str (Str.ofL ((l.drop i).take (j - i)))) := by
  have h : slice (En X) 9 (.str (Str.ofL l)) (some (.int .i64 (Int.ofNat i))) (some (.int .i64 (Int.ofNat j))) none look = some (.str ((Str.ofL l).sub i j)) := by
    unfold slice
    rw [ustr9]
    show cutStr (Str.ofL l) none (cut3 (some (.int .i64 (Int.ofNat i))) (some (.int .i64 (Int.ofNat j))) none l.length l.length) = _
    have : cut3 (some (.int .i64 (Int.ofNat i))) (some (.int .i64 (Int.ofNat j))) none l.length l.length = some (i, j, l.length) := by
      unfold cut3 bound
      simp only [inB_nat (show j < l.length + 1 by omega), inB_nat (show i < j + 1 by omega)]
    rw [this]; rfl
  rw [h, Str.sub_ofL _ _ _ hij hj]
def rkD (s : List UInt8) (i : Nat) (d : D) (f m : Bool) : List D := [.str (Str.ofL s), .int .i64 (Int.ofNat i), d, .bool f, .bool m]
def rkL (s l : List UInt8) (d : D) (f m : Bool) : List D := rkD s (s.length - l.length) d f m
theorem rk_at {s : List UInt8} {i : Nat} (h : i ≤ s.length) (d : D) (f m : Bool) : rkL s (s.drop i) d f m = rkD s i d f m := by
  unfold rkL
  rw [List.length_drop, show s.length - (s.length - i) = i by omega]
theorem suf_drop {l s : List UInt8} (h : l <:+ s) : ∃ i, i ≤ s.length ∧ l = s.drop i := by
  obtain ⟨t, rfl⟩ := h
  exact ⟨t.length, by simp, by simp⟩
theorem suf_of (s : List UInt8) (i : Nat) : s.drop i <:+ s := List.drop_suffix _ _
theorem suf_drop2 {l s : List UInt8} (h : l <:+ s) (k : Nat) : l.drop k <:+ s := List.IsSuffix.trans (List.drop_suffix _ _) h
theorem dropBl_suf (l : List UInt8) : dropBl l <:+ l := List.dropWhile_suffix _
theorem suf_len {l s : List UInt8} (h : l <:+ s) : l.length ≤ s.length := List.IsSuffix.length_le h
theorem rkD_inj {s s' : List UInt8} {i i' : Nat} {d d' : D} {f f' m m' : Bool} (h : rkD s i d f m = rkD s' i' d' f' m') : s = s' ∧ i = i' ∧ d = d' ∧ f = f' ∧ m = m' := by
  simp only [rkD, List.cons.injEq, D.str.injEq, D.int.injEq, D.bool.injEq, and_true, true_and] at h
  obtain ⟨h1, h2, h3, h4, h5⟩ := h
  have h2 : ((i : Nat) : Int) = (i' : Nat) := h2
  exact ⟨ofL_inj h1, by omega, h3, h4, h5⟩
theorem rkL_inj {s s' l l' : List UInt8} {d d' : D} {f f' m m' : Bool} (hl : l <:+ s) (hl' : l' <:+ s') (h : rkL s l d f m = rkL s' l' d' f' m') : s = s' ∧ l = l' ∧ d = d' ∧ f = f' ∧ m = m' := by
  obtain ⟨rfl, h2, h3, h4, h5⟩ := rkD_inj h
  have g1 := suf_len hl
  have g2 := suf_len hl'
  obtain ⟨i, hi, rfl⟩ := suf_drop hl
  obtain ⟨j, hj, rfl⟩ := suf_drop hl'
  rw [List.length_drop, List.length_drop] at h2
  have : i = j := by omega
  subst this
  exact ⟨rfl, rfl, h3, h4, h5⟩
theorem rk_plain {s : List UInt8} {i : Nat} {d : D} (hd : d.plain = true) {f m : Bool} : (rkD s i d f m).all D.plain = true := by
  show (true && (true && (d.plain && (true && (true && true))))) = true
  rw [hd]; rfl
theorem rk_frz (look : Look) {s : List UInt8} {i : Nat} {d : D} (hd : d.plain = true) {f m : Bool} : mapO (frzC look 2000) (cellsD (rkD s i d f m)) = some (rkD s i d f m, []) := mapO_plain look 2000 _ (rk_plain hd)
section
variable {S : St} {b : Nat} {s : List UInt8} {i : Nat} {d : D} {f m : Bool}
theorem rk0 (h : LRow S b (cellsD (rkD s i d f m))) : ldHC S.h.get b 0 = some (.c (.str (Str.ofL s))) := h.ldC rfl
theorem rk1 (h : LRow S b (cellsD (rkD s i d f m))) : ldHC S.h.get b 1 = some (.c (.int .i64 (Int.ofNat i))) := h.ldC rfl
theorem rk2 (h : LRow S b (cellsD (rkD s i d f m))) : ldHC S.h.get b 2 = some (.c d.toC) := h.ldC rfl
theorem rk3 (h : LRow S b (cellsD (rkD s i d f m))) : ldHC S.h.get b 3 = some (.c (.bool f)) := h.ldC rfl
theorem rk4 (h : LRow S b (cellsD (rkD s i d f m))) : ldHC S.h.get b 4 = some (.c (.bool m)) := h.ldC rfl
theorem rk_set1 (h : LRow S b (cellsD (rkD s i d f m))) (i' : Nat) : ∃ S', writeL S b 1 [.int .i64 (Int.ofNat i')] = some S' ∧ LRow S' b (cellsD (rkD s i' d f m)) ∧ S'.nx = S.nx ∧ ∀ x, x ≠ b → S'.h.get x = S.h.get x := h.one (o := 1) (.int .i64 (Int.ofNat i')) (show 1 < 5 by omega)
theorem rk_set3 (h : LRow S b (cellsD (rkD s i d f m))) (f' : Bool) : ∃ S', writeL S b 3 [.bool f'] = some S' ∧ LRow S' b (cellsD (rkD s i d f' m)) ∧ S'.nx = S.nx ∧ ∀ x, x ≠ b → S'.h.get x = S.h.get x := h.one (o := 3) (.bool f') (show 3 < 5 by omega)
theorem rk_set4 (h : LRow S b (cellsD (rkD s i d f m))) (m' : Bool) : ∃ S', writeL S b 4 [.bool m'] = some S' ∧ LRow S' b (cellsD (rkD s i d f m')) ∧ S'.nx = S.nx ∧ ∀ x, x ≠ b → S'.h.get x = S.h.get x := h.one (o := 4) (.bool m') (show 4 < 5 by omega)
end
theorem cv5 (X : T Ext) (c : UInt8) (look : Look) : Ev.convert (En X) 5 21 (.int .u8 (Int.ofNat c.toNat)) look = some (.int .i32 (Int.ofNat c.toNat)) := by
  have h := c.toNat_lt
  unfold Ev.convert
  rw [uint5]
  simp only []
  rw [uint21]
  show intC .i32 (wrapK .i32 (Int.ofNat c.toNat)) = _
  rw [intC_eq]
  congr 2
  rw [wrapK_eq]
  refine wrap_in _ _ ?_ ?_
  · show (-2147483648 : Int) ≤ ((c.toNat : Nat) : Int); omega
  · show ((c.toNat : Nat) : Int) ≤ 2147483647; omega
theorem st3 (X : T Ext) (s : St) (b o : Nat) (w : W) : store (En X) 3 s b o w = if w.cells.length = 1 then writeL s b o w.cells else none := store_of (tab3 X) tis3 s b o w
def blN (n : Nat) : Bool := Nat.beq n 32 || Nat.beq n 9 || Nat.beq n 10
theorem blN_eq (c : UInt8) : blN c.toNat = isBl c := by
  unfold blN isBl
  have e : ∀ d : UInt8, Nat.beq c.toNat d.toNat = (c == d) := fun d => by
    rw [Bool.eq_iff_iff, Nat.beq_eq]; simp [UInt8.toNat_inj]
  rw [← e 32, ← e 9, ← e 10]; rfl
theorem all26 : (List.range 256).all (fun n => okB (runB1 26 .i32 n) (blN n)) = true := by kernel_rfl
theorem all67 : (List.range 256).all (fun n => okB (runB1 67 .i32 n) (moreN n)) = true := by kernel_rfl
theorem all85 : (List.range 256).all (fun n => okB (runB1 85 .i32 n) (firstN n)) = true := by kernel_rfl
noncomputable def e26 : Nat × Ext := (26, .fn (ofG (RB1 .i32 blN)) [])
theorem c26 : Ok e26 := c_B1 all26
noncomputable def e67 : Nat × Ext := (67, .fn (ofG (RB1 .i32 moreN)) [])
theorem c67 : Ok e67 := c_B1 all67
noncomputable def e85 : Nat × Ext := (85, .fn (ofG (RB1 .i32 firstN)) [])
theorem c85 : Ok e85 := c_B1 all85
def headN (l : List UInt8) : Nat := match l with
  | [] => 0
  | c :: _ => c.toNat
theorem skip14 (X : T Ext) (hX : (En X).ext.get 14 = none) (h26 : (En X).ext.get 26 = some (.fn (ofG (RB1 .i32 blN)) [])) (s : List UInt8) (hs : s.length ≤ 1000) (i : Nat) (hi : i ≤ s.length) (d : D) (f m : Bool) (b : Nat) (S : St) (K : V → St → Prop) (hr : LRow S b (cellsD (rkD s i d f m)))
    (hK : ∀ S' : St, LRow S' b (cellsD (rkL s (dropBl (s.drop i)) d f m)) → K (.w (.c (.int .u8 (Int.ofNat (if f = true then 0 else headN (dropBl (s.drop i))))))) S') : goC (En X) 14 [.c (.ptr b 0)] S K := by
  refine goC_body hX (kp14 X) (fn14 X) rfl (by kernel_rfl) ?_
  have hres : Tryd.f14.results.toList = [.tmp 2] := rfl
  simp only [zEV, Nat.reduceShiftRight, Nat.reduceMod, Nat.reduceEqDiff, Nat.reduceAdd, ↓reduceIte, reduceCtorEq]
  refine go_loop (goL_inv (fun n a' S' => ∃ j, n = s.length - j ∧ j ≤ s.length ∧ Has a' 0 (vc (.ptr b 0)) ∧ LRow S' b (cellsD (rkD s j d f m)) ∧ dropBl (s.drop j) = dropBl (s.drop i)) (n := s.length - i)
    ⟨i, rfl, hi, ⟨rfl, rfl⟩, hr, rfl⟩ ?_)
  rintro n a' S' ⟨j, rfl, hj, ⟨g0, k0⟩, r1, hd⟩
  have c0 := rk0 r1
  have c1 := rk1 r1
  have c3 := rk3 r1
  by_cases hlt : j < s.length
  · have hlt' : (Int.ofNat j < Int.ofNat s.length) = True := eq_true (Int.ofNat_lt.2 hlt)
    obtain ⟨c, hc⟩ : ∃ c, s[j]? = some c := ⟨_, List.getElem?_eq_getElem hlt⟩
    have hix := index_str X s hc
    have hdr : s.drop j = c :: s.drop (j + 1) := by
      rw [List.drop_eq_getElem_cons hlt]
      rw [List.getElem?_eq_getElem hlt] at hc
      cases hc; rfl
    have hb := blN_eq c
    have hbl := callR_B1 h26 (n := c.toNat) c.toNat_lt
    simp only [zEV, Nat.reduceShiftRight, Nat.reduceMod, Nat.reduceEqDiff, Nat.reduceAdd, ↓reduceIte, reduceCtorEq, g0, k0]
    refine go_drawD _ _ 23 23 [0, 1, 3, 7, 0, 16, 48, 112, 240, 511, 1023, 2047, 4095, 8191, 16383, 2047, 34815, 100351, 231423, 524287, 1048575, 2097151, 4194303] rfl (by kernel_rfl) (by kernel_rfl) (by kernel_rfl) ?_
    simp only [zEV, Nat.reduceShiftRight, Nat.reduceMod, Nat.reduceEqDiff, Nat.reduceAdd, ↓reduceIte, reduceCtorEq, zDH, Nat.reduceOr, Nat.reduceAnd, Nat.reduceShiftLeft, Nat.reduceLT, g0, k0, rNil_eq, fA_43_0, fA_43_1, ldh3, ldh9, c0, c1, len_str, hlt', rIndex_eq, hix, dg_convert, isNew21, cv5, rConvert_eq]
    refine dg_call _ _ _ _ _ _ (ws := [.c (.int .i32 (Int.ofNat c.toNat))]) rfl (by simp only [zEA, Nat.reduceShiftRight, Nat.reduceMod, Nat.reduceEqDiff, Nat.reduceAdd, ↓reduceIte, reduceCtorEq, argsOf_cons, argsOf_nil]) (hbl _) (by decide) (by simp only [zEV, Nat.reduceShiftRight, Nat.reduceMod, Nat.reduceEqDiff, Nat.reduceAdd, ↓reduceIte, reduceCtorEq, zDH, Nat.reduceOr, Nat.reduceAnd, Nat.reduceShiftLeft, Nat.reduceLT]) ?_
    cases hq : isBl c with
    | true =>
      have hd2 : dropBl (c :: s.drop (j + 1)) = dropBl (s.drop (j + 1)) := by unfold dropBl; rw [List.dropWhile_cons, if_pos hq]
      have hsu := nat_succ (show j < 9223372036854775807 by omega)
      have hl1 : ([.int .i64 (Int.ofNat (j + 1))] : List C).length = 1 := rfl
      simp only [zEV, Nat.reduceShiftRight, Nat.reduceMod, Nat.reduceEqDiff, Nat.reduceAdd, ↓reduceIte, reduceCtorEq, zDH, Nat.reduceOr, Nat.reduceAnd, Nat.reduceShiftLeft, Nat.reduceLT, g0, k0, hb, hq]
      have r2 : LRow ⟨S'.h, S'.nx + 23⟩ b (cellsD (rkD s j d f m)) := r1.keep rfl
      have c12 := rk1 r2
      obtain ⟨S3, w3, r3, n3, f3⟩ := rk_set1 r2 (j + 1)
      simp only [zEV, Nat.reduceShiftRight, Nat.reduceMod, Nat.reduceEqDiff, Nat.reduceAdd, ↓reduceIte, reduceCtorEq, zDH, Nat.reduceOr, Nat.reduceAnd, Nat.reduceShiftLeft, Nat.reduceLT, g0, k0, rNil_eq, fA_43_0, fA_43_1, ldh3, c12, hsu, st3, hl1, w3]
      refine ⟨_, ?_, j + 1, rfl, hlt, ⟨?_, ?_⟩, r3, ?_⟩
      all_goals first | (simp only [zEA, Nat.reduceShiftRight, Nat.reduceMod, Nat.reduceEqDiff, Nat.reduceAdd, ↓reduceIte, reduceCtorEq, g0, k0]; done) | omega | skip
      rw [← hd, hdr, hd2]
    | false =>
      have hd2 : dropBl (c :: s.drop (j + 1)) = c :: s.drop (j + 1) := by unfold dropBl; rw [List.dropWhile_cons, if_neg (by rw [hq]; simp)]
      rw [← hd, hdr, hd2, ← hdr, rk_at hj] at hK
      have hge : (Int.ofNat s.length ≤ Int.ofNat j) = False := eq_false (fun h => absurd (Int.ofNat_le.1 h) (by omega))
      have c00 : ldHC (⟨S'.h, S'.nx + 23⟩ : St).h.get b 0 = some (.c (.str (Str.ofL s))) := c0
      simp only [zEV, Nat.reduceShiftRight, Nat.reduceMod, Nat.reduceEqDiff, Nat.reduceAdd, ↓reduceIte, reduceCtorEq, zDH, Nat.reduceOr, Nat.reduceAnd, Nat.reduceShiftLeft, Nat.reduceLT, g0, k0, hb, hq]
      rw [go_draw]
      rotate_left
      · kernel_rfl
      cases f with
      | true =>
        simp only [zEV, Nat.reduceShiftRight, Nat.reduceMod, Nat.reduceEqDiff, Nat.reduceAdd, ↓reduceIte, reduceCtorEq, g0, k0, rNil_eq, fA_43_0, fA_43_1, fA_43_3, ldh3, ldh4, ldh9, c0, c1, c3, len_str, hge, hres]
        exact hK _ (r1.keep rfl)
      | false =>
        have hhd : headN (dropBl (c :: s.drop (j + 1))) = c.toNat := by rw [hd2]; rfl
        rw [hdr] at hK
        simp only [zEV, Nat.reduceShiftRight, Nat.reduceMod, Nat.reduceEqDiff, Nat.reduceAdd, ↓reduceIte, reduceCtorEq, g0, k0, rNil_eq, fA_43_0, fA_43_1, fA_43_3, ldh3, ldh4, ldh9, c0, c1, c3, len_str, hge]
        refine go_drawD _ _ 9 10 [0, 1, 3, 7, 0, 16, 48, 112, 255, 511] rfl (by kernel_rfl) (by kernel_rfl) (by kernel_rfl) ?_
        simp only [zEV, Nat.reduceShiftRight, Nat.reduceMod, Nat.reduceEqDiff, Nat.reduceAdd, ↓reduceIte, reduceCtorEq, zDH, Nat.reduceOr, Nat.reduceAnd, Nat.reduceShiftLeft, Nat.reduceLT, g0, k0, rNil_eq, fA_43_0, fA_43_1, fA_43_3, ldh3, ldh4, ldh9, c0, c1, c3, len_str, rIndex_eq, hix, hres]
        exact hK _ (r1.keep rfl)
  · have hlt' : (Int.ofNat j < Int.ofNat s.length) = False := eq_false (fun h => hlt (Int.ofNat_lt.1 h))
    have hge : (Int.ofNat s.length ≤ Int.ofNat j) = True := eq_true (Int.ofNat_le.2 (by omega))
    have hdr : s.drop j = [] := List.drop_eq_nil_of_le (by omega)
    have hd2 : dropBl (s.drop i) = [] := by rw [← hd, hdr]; rfl
    have hat := rk_at hj d f m
    rw [hdr] at hat
    rw [hd2, hat] at hK
    have hz : (if f = true then 0 else headN []) = 0 := by cases f <;> rfl
    rw [hz] at hK
    simp only [zEV, Nat.reduceShiftRight, Nat.reduceMod, Nat.reduceEqDiff, Nat.reduceAdd, ↓reduceIte, reduceCtorEq, g0, k0]
    refine go_drawD _ _ 23 23 [0, 1, 3, 7, 0, 16, 48, 112, 240, 511, 1023, 2047, 4095, 8191, 16383, 2047, 34815, 100351, 231423, 524287, 1048575, 2097151, 4194303] rfl (by kernel_rfl) (by kernel_rfl) (by kernel_rfl) ?_
    simp only [zEV, Nat.reduceShiftRight, Nat.reduceMod, Nat.reduceEqDiff, Nat.reduceAdd, ↓reduceIte, reduceCtorEq, zDH, Nat.reduceOr, Nat.reduceAnd, Nat.reduceShiftLeft, Nat.reduceLT, g0, k0, rNil_eq, fA_43_0, fA_43_1, ldh3, ldh9, c0, c1, len_str, hlt']
    rw [go_draw]
    rotate_left
    · kernel_rfl
    simp only [zEV, Nat.reduceShiftRight, Nat.reduceMod, Nat.reduceEqDiff, Nat.reduceAdd, ↓reduceIte, reduceCtorEq, g0, k0, rNil_eq, fA_43_0, fA_43_1, fA_43_3, ldh3, ldh4, ldh9, c0, c1, c3, len_str, hge, hres]
    exact hK _ (r1.keep rfl)
end Ar

namespace Ar
open Go Go.Proofs Ev Go.Lib Nu
set_option linter.unusedVariables false
set_option linter.unusedSimpArgs false
set_option linter.unnecessarySimpa false
set_option maxRecDepth 100000
def RSk (ds : List D) (ps : List PW) (v : PV × List D) : Prop := ∃ s l d f m, ds = rkL s l d f m ∧ l <:+ s ∧ s.length ≤ 1000 ∧ d.plain = true ∧ ps = [] ∧ v = (.w (.c (.int .u8 (Int.ofNat (if f = true then 0 else headN (dropBl l))))), rkL s (dropBl l) d f m)
theorem meR {pv : PV} {s l : List UInt8} {d : D} {f m : Bool} {v : V} {s' : St} {bs : List Nat} (hd : d.plain = true) (h : frzV s'.h.get v = some (pv, bs)) (hb : Tryd.prog.globals.size ∉ bs) (hr : LRow s' Tryd.prog.globals.size (cellsD (rkL s l d f m))) :
    ∃ bs l' bs2, frzV s'.h.get v = some (pv, bs) ∧ Tryd.prog.globals.size ∉ bs ∧ LRow s' Tryd.prog.globals.size l' ∧ mapO (frzC s'.h.get 2000) l' = some (rkL s l d f m, bs2) ∧ Tryd.prog.globals.size ∉ bs2 :=
  ⟨bs, _, [], h, hb, hr, rk_frz _ hd, fun h => by cases h⟩
noncomputable def e14 : Nat × Ext := (14, .me (ofM RSk) [])
theorem c14 : Ok e14 := me_goE (exts := [e26]) Ak.any_ok types_ok fns_ok (ok1 c26 ok0) RSk (fun _ _ _ _ x hx => by cases hx) (by
  rintro ds ps pv ds' ⟨s, l, d, f, m, rfl, hl, hs, hd, rfl, h⟩
  cases h
  obtain ⟨i, hi, rfl⟩ := suf_drop hl
  rw [rk_at hi]
  exact skip14 _ rfl rfl s hs i hi d f m _ _ _ (stM_LRow _ _) fun s' hr => meR (bs := []) hd rfl (fun h => by cases h) hr)
theorem callR_sk {X : T Ext} (h14 : (En X).ext.get 14 = some (.me (ofM RSk) [])) {s l : List UInt8} {d : D} {f m : Bool} (hl : l <:+ s) (hs : s.length ≤ 1000) (hd : d.plain = true) {b : Nat} {S : St} (hr : LRow S b (cellsD (rkL s l d f m))) :
    ∃ S2, CallR (En X) 14 [.c (.ptr b 0)] S (.w (.c (.int .u8 (Int.ofNat (if f = true then 0 else headN (dropBl l)))))) S2 ∧ LRow S2 b (cellsD (rkL s (dropBl l) d f m)) ∧ S2.nx = S.nx ∧ ∀ x, x ≠ b → S2.h.get x = S.h.get x :=
  callR_me (ps := []) (pv := .w (.c (.int .u8 (Int.ofNat (if f = true then 0 else headN (dropBl l)))))) h14 hr (rk_plain hd) rfl ⟨s, l, d, f, m, rfl, hl, hs, hd, rfl, rfl⟩ (by
    rintro v ⟨s', l', d', f', m', h1, hl', _, _, _, rfl⟩
    obtain ⟨rfl, rfl, rfl, rfl, rfl⟩ := rkL_inj hl hl' h1
    rfl) rfl
theorem nat_add {a b : Nat} (h : a + b < 9223372036854775808) : wrapK .i64 (Int.ofNat a + Int.ofNat b) = Int.ofNat (a + b) := by
  show wrapK .i64 (Int.ofNat (a + b)) = _
  rw [wrapK_eq]
  refine wrap_in _ _ ?_ ?_
  · show -9223372036854775808 ≤ (((a + b : Nat)) : Int); omega
  · show (((a + b : Nat)) : Int) ≤ 9223372036854775807; omega
def eatB (f : Bool) (l p : List UInt8) : Bool := !f && pre (dropBl l) p
def eatL (f : Bool) (l p : List UInt8) : List UInt8 := if eatB f l p = true then (dropBl l).drop p.length else dropBl l
theorem eatL_suf (f : Bool) (l p : List UInt8) : eatL f l p <:+ l := by
  unfold eatL
  split
  · exact suf_drop2 (dropBl_suf l) _
  · exact dropBl_suf l
theorem eat24 (X : T Ext) (hX : (En X).ext.get 24 = none) (h14 : (En X).ext.get 14 = some (.me (ofM RSk) [])) (s l p : List UInt8) (hl : l <:+ s) (hs : s.length ≤ 1000) (hp : p.length ≤ 2) (d : D) (hd : d.plain = true) (f m : Bool) (b : Nat) (S : St) (K : V → St → Prop) (hr : LRow S b (cellsD (rkL s l d f m)))
    (hK : ∀ S' : St, LRow S' b (cellsD (rkL s (eatL f l p) d f m)) → K (.w (.c (.bool (eatB f l p)))) S') : goC (En X) 24 [.c (.ptr b 0), .c (.str (Str.ofL p))] S K := by
  refine goC_body hX (kp24 X) (fn24 X) rfl (by kernel_rfl) ?_
  have hres : Tryd.f24.results.toList = [.tmp 4] := rfl
  obtain ⟨S2, hc2, r2, n2, f2⟩ := callR_sk h14 hl hs hd hr
  simp only [zEV, Nat.reduceShiftRight, Nat.reduceMod, Nat.reduceEqDiff, Nat.reduceAdd, ↓reduceIte, reduceCtorEq]
  refine go_call _ _ _ _ _ _ (ws := [.c (.ptr b 0)]) rfl (by simp only [zEA, Nat.reduceShiftRight, Nat.reduceMod, Nat.reduceEqDiff, Nat.reduceAdd, ↓reduceIte, reduceCtorEq, argsOf_cons, argsOf_nil]) ?_
  refine goC_of hc2 ?_
  simp only [zEV, Nat.reduceShiftRight, Nat.reduceMod, Nat.reduceEqDiff, Nat.reduceAdd, ↓reduceIte, reduceCtorEq]
  refine go_drawK _ _ (by kernel_rfl) fun nn hnn => ?_
  obtain ⟨j, hj, hjl⟩ := suf_drop (List.IsSuffix.trans (dropBl_suf l) hl)
  unfold eatL at hK
  unfold eatB at hK
  rw [hjl] at r2 hK
  rw [rk_at hj] at r2
  have c0 := rk0 r2
  have c1 := rk1 r2
  have c3 := rk3 r2
  cases f with
  | true =>
    rw [show (!true && pre (s.drop j) p) = false from rfl, if_neg (by simp), rk_at hj] at hK
    simp only [zEV, Nat.reduceShiftRight, Nat.reduceMod, Nat.reduceEqDiff, Nat.reduceAdd, ↓reduceIte, reduceCtorEq, rNil_eq, fA_43_0, fA_43_1, fA_43_3, ldh3, ldh4, ldh9, c0, c1, c3, len_str, hres]
    exact hK _ (r2.keep rfl)
  | false =>
    rw [show (!false && pre (s.drop j) p) = pre (s.drop j) p from rfl] at hK
    have hsu := nat_add (a := j) (b := p.length) (by omega)
    by_cases hlt : s.length < j + p.length
    · have h1 : (Int.ofNat s.length < Int.ofNat (j + p.length)) = True := eq_true (Int.ofNat_lt.2 hlt)
      have hpf : pre (s.drop j) p = false := by
        cases h : pre (s.drop j) p with
        | false => rfl
        | true => have := pre_le h; rw [List.length_drop] at this; omega
      rw [hpf, if_neg (by simp), rk_at hj] at hK
      simp only [zEV, Nat.reduceShiftRight, Nat.reduceMod, Nat.reduceEqDiff, Nat.reduceAdd, ↓reduceIte, reduceCtorEq, rNil_eq, fA_43_0, fA_43_1, fA_43_3, ldh3, ldh4, ldh9, c0, c1, c3, len_str, hsu, h1, hres]
      exact hK _ (r2.keep rfl)
    · have h1 : (Int.ofNat s.length < Int.ofNat (j + p.length)) = False := eq_false (fun h => hlt (Int.ofNat_lt.1 h))
      have hsl := fun look => slice_smid X look s (i := j) (j := j + p.length) (by omega) (by omega)
      have hpe : ((s.drop j).take (j + p.length - j) == p) = pre (s.drop j) p := by rw [show j + p.length - j = p.length by omega]; rfl
      cases hq : pre (s.drop j) p with
      | false =>
        rw [hq] at hpe
        rw [hq, if_neg (by simp), rk_at hj] at hK
        simp only [zEV, Nat.reduceShiftRight, Nat.reduceMod, Nat.reduceEqDiff, Nat.reduceAdd, ↓reduceIte, reduceCtorEq, rNil_eq, fA_43_0, fA_43_1, fA_43_3, ldh3, ldh4, ldh9, c0, c1, c3, len_str, hsu, h1, rSlice_lh, hsl, hpe, hres]
        exact hK _ (r2.keep rfl)
      | true =>
        rw [hq] at hpe
        rw [hq, if_pos rfl, List.drop_drop, rk_at (show j + p.length ≤ s.length by omega)] at hK
        have r3 : ∀ n, LRow ⟨S2.h, n⟩ b (cellsD (rkD s j d false m)) := fun n => r2.keep rfl
        have hl1 : ([.int .i64 (Int.ofNat (j + p.length))] : List C).length = 1 := rfl
        obtain ⟨S4, w4, r4, n4, f4⟩ := rk_set1 (r3 nn) (j + p.length)
        simp only [zEV, Nat.reduceShiftRight, Nat.reduceMod, Nat.reduceEqDiff, Nat.reduceAdd, ↓reduceIte, reduceCtorEq, rNil_eq, fA_43_0, fA_43_1, fA_43_3, ldh3, ldh4, ldh9, c0, c1, c3, len_str, hsu, h1, rSlice_lh, hsl, hpe, st3, hl1, w4, hres]
        exact hK _ r4
end Ar
