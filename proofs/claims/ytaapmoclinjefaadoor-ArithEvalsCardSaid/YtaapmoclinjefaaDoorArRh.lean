import Derived.Test.YtaapmoclinjefaaDoorArV3
import Derived.Test.YtaapmoclinjefaaDoorEwL
namespace Ar
open Go Go.Proofs Ev Go.Lib Nu
set_option linter.unusedVariables false
set_option linter.unusedSimpArgs false
set_option linter.unnecessarySimpa false
set_option maxRecDepth 100000
def elU (c : UInt8) : List D := [.int .i32 (Int.ofNat c.toNat)]
theorem elU_one (l : List UInt8) : ∀ x ∈ l.map elU, x.length = 1 := by
  intro x hx
  obtain ⟨r, _, rfl⟩ := List.mem_map.1 hx; rfl
theorem elU_plain (l : List UInt8) : (l.map elU).flatten.all D.plain = true := by
  rw [List.all_eq_true]
  intro d hd
  obtain ⟨x, hx, hdx⟩ := List.mem_flatten.1 hd
  obtain ⟨r, _, rfl⟩ := List.mem_map.1 hx
  have : d = .int .i32 (Int.ofNat r.toNat) := by simpa [elU] using hdx
  rw [this]; rfl
theorem dec47 (X : T Ext) (hX : (En X).ext.get 47 = none) (c : UInt8) (r : List UInt8) (hc : c.toNat < 128) (s : St) (K : V → St → Prop) (hK : ∀ s', s'.h = s.h → K (.tup [.c (.int .i32 (Int.ofNat c.toNat)), .c (.int .i64 1)]) s') : goC (En X) 47 [.c (.str (Str.ofL (c :: r)))] s K := by
  refine goC_body hX (kp47 X) (fn47 X) rfl (by kernel_rfl) ?_
  have hres : Tryd.f47.results.toList = [.tmp 2, .tmp 3] := rfl
  have hb : ((c :: r) == ([] : List UInt8)) = false := rfl
  have hi0 : index (En X) 9 (.c (.str (Str.ofL (c :: r)))) 0 = some (.c (.int .u8 (Int.ofNat c.toNat))) := index_str X (c :: r) (i := 0) (c := c) rfl
  have e1 : (Int.ofNat c.toNat < 128) = True := eq_true (by show ((c.toNat : Nat) : Int) < 128; omega)
  simp only [zEV, Nat.reduceShiftRight, Nat.reduceMod, Nat.reduceEqDiff, Nat.reduceAdd, ↓reduceIte, reduceCtorEq, lit_0, hb, rIndex_eq, hi0, e1, rConvert_eq, go_convert, isNew21, cv5, hres]
  exact hK _ rfl
def RDec (ps : List PW) (v : PV) : Prop := ∃ (c : UInt8) (r : List UInt8), ps = [.c (.str (Str.ofL (c :: r)))] ∧ c.toNat < 128 ∧ v = .tup [.c (.int .i32 (Int.ofNat c.toNat)), .c (.int .i64 1)]
noncomputable def e47 : Nat × Ext := (47, .fn (ofG RDec) [])
theorem c47 : Ok e47 := fn_of_go_g (exts := []) ok0 rfl [] rfl _ (by
  rintro ps pv ⟨c, r, rfl, hc, rfl⟩
  exact dec47 _ rfl c r hc _ _ fun s' _ => ⟨[], rfl⟩)
theorem callR_dec {X : T Ext} (h47 : (En X).ext.get 47 = some (.fn (ofG RDec) [])) (c : UInt8) (r : List UInt8) (hc : c.toNat < 128) (s : St) : CallR (En X) 47 [.c (.str (Str.ofL (c :: r)))] s (.tup [.c (.int .i32 (Int.ofNat c.toNat)), .c (.int .i64 1)]) s :=
  callR_fn (ps := [.c (.str (Str.ofL (c :: r)))]) (pv := .tup [.c (.int .i32 (Int.ofNat c.toNat)), .c (.int .i64 1)]) h47 (ofG_eq ⟨c, r, rfl, hc, rfl⟩ (by
    rintro v' ⟨c', r', h1, _, rfl⟩
    have := str_one h1
    cases this; rfl)) rfl
theorem SlAt_newRow {s : St} {y : Blk} {c : C} {z : Nat} {els : List (List D)} (h : SlAt s c z els) : SlAt (s.new y) c z els := by
  obtain ⟨h1, h2⟩ := h
  refine ⟨h1, h2.imp id ?_⟩
  rintro ⟨b, sh, anc, rfl, h3, h4, h5⟩
  exact ⟨b, sh, anc, rfl, by rw [new_old s y h5]; exact h3, h4, by rw [St.new_nx]; omega⟩
theorem runes86 (X : T Ext) (hX : (En X).ext.get 86 = none) (h47 : (En X).ext.get 47 = some (.fn (ofG RDec) [])) (l : List UInt8) (ha : asc l) (hl : l.length ≤ 1000) (s : St) (K : V → St → Prop) (hK : ∀ c s', SlAt s' c 1 (l.map elU) → K (vc c) s') : goC (En X) 86 [.c (.str (Str.ofL l))] s K := by
  refine goC_body hX (kp86 X) (fn86 X) rfl (by kernel_rfl) ?_
  have hres : Tryd.f86.results.toList = [.tmp 2] := rfl
  simp only [zEV, Nat.reduceShiftRight, Nat.reduceMod, Nat.reduceEqDiff, Nat.reduceAdd, ↓reduceIte, reduceCtorEq]
  refine go_loop (goL_inv (fun n' a' s' => ∃ i c, n' = l.length - i ∧ i ≤ l.length ∧ Has a' 0 (vc (.str (Str.ofL (l.drop i)))) ∧ Has a' 3 (vc c) ∧ SlAt s' c 1 ((l.take i).map elU)) (n := l.length)
    ⟨0, .nils, rfl, Nat.zero_le _, ⟨rfl, rfl⟩, ⟨rfl, rfl⟩, by simpa using SlAt.nil _ 1⟩ ?_)
  rintro n' a' s' ⟨i, c, rfl, hi, ⟨g0, k0⟩, ⟨g3, k3⟩, hsl⟩
  by_cases hlt : i < l.length
  · obtain ⟨x, hx⟩ : ∃ x, l[i]? = some x := ⟨_, List.getElem?_eq_getElem hlt⟩
    have hdr : l.drop i = x :: l.drop (i + 1) := by
      rw [List.drop_eq_getElem_cons hlt]
      rw [List.getElem?_eq_getElem hlt] at hx
      cases hx; rfl
    rw [hdr] at g0 k0
    have h128 := more_128 (ha x (List.mem_of_getElem? hx))
    have hgt := gt0_cons x (l.drop (i + 1))
    have htk : (l.take (i + 1)).map elU = (l.take i).map elU ++ [elU x] := by
      rw [List.take_add_one, hx]; simp
    have sl3 := SlAt_newRow (y := .row (mkRow [.int .i32 (Int.ofNat x.toNat)])) hsl
    have hrow : (s'.new (.row (mkRow [.int .i32 (Int.ofNat x.toNat)]))).h.get s'.nx = some (.row ⟨T.ofL [.int .i32 (Int.ofNat x.toNat)], 1, true, 0, []⟩) := by rw [row_newC, mkRow_eq]; rfl
    have hn := newCells_one (z := 1) (x := elU x) hrow (T.getL_ofL _) (some 1)
    obtain ⟨c', s4, happ, sl4, kp4, hc4⟩ := app_cells (y := .sl s'.nx 0 1 (some 1) 1) (l := [elU x]) (el108 X) (by rw [ti21.1]; exact sl3) (by rw [ti21.1]; intro x hx; simp at hx; subst hx; rfl) (by rw [ti21.1]; decide)
      (by rw [ti21.1]; exact hn) (by rw [ti21.2]; have : maxBytes = 140737488355328 := rfl; simp; omega)
    rw [ti21.1, ← htk] at sl4
    have t1 : ∀ look, slice (En X) 9 (.str (Str.ofL (x :: l.drop (i + 1)))) (some (.int .i64 1)) none none look = some (.str (Str.ofL (l.drop (i + 1)))) := fun look => slice_sdrop (ustr9 X) look (x :: l.drop (i + 1)) (show 1 ≤ (x :: l.drop (i + 1)).length by simp)
    simp only [zEV, Nat.reduceShiftRight, Nat.reduceMod, Nat.reduceEqDiff, Nat.reduceAdd, ↓reduceIte, reduceCtorEq, g0, k0, g3, k3, len_str, hgt]
    refine go_call _ _ _ _ _ _ (ws := [.c (.str (Str.ofL (x :: l.drop (i + 1))))]) rfl (by simp only [zEV, Nat.reduceShiftRight, Nat.reduceMod, Nat.reduceEqDiff, Nat.reduceAdd, ↓reduceIte, reduceCtorEq, g0, k0, g3, k3, argsOf_cons, argsOf_nil]) ?_
    refine goC_of (callR_dec h47 x _ h128 _) ?_
    simp only [zEV, Nat.reduceShiftRight, Nat.reduceMod, Nat.reduceEqDiff, Nat.reduceAdd, ↓reduceIte, reduceCtorEq, g0, k0, g3, k3, nBuildSlice_eq, partsOf_cons, partsOf_nil, bS108_1, us108, happ, rSlice_lo, t1]
    refine ⟨_, ?_, i + 1, c', rfl, hlt, ⟨?_, ?_⟩, ⟨?_, ?_⟩, sl4⟩
    all_goals first | (simp only [zEA, Nat.reduceShiftRight, Nat.reduceMod, Nat.reduceEqDiff, Nat.reduceAdd, ↓reduceIte, reduceCtorEq, g0, k0, g3, k3]; done) | omega
  · have hdr : l.drop i = [] := List.drop_eq_nil_of_le (by omega)
    rw [hdr] at g0 k0
    have hgt : (0 < Int.ofNat ([] : List UInt8).length) = False := eq_false (by decide)
    rw [List.take_of_length_le (by omega)] at hsl
    simp only [zEV, Nat.reduceShiftRight, Nat.reduceMod, Nat.reduceEqDiff, Nat.reduceAdd, ↓reduceIte, reduceCtorEq, g0, k0, g3, k3, len_str, hgt, hres]
    exact hK _ _ hsl
def RRu (ps : List PW) (v : PV) : Prop := ∃ l, ps = [.c (.str (Str.ofL l))] ∧ asc l ∧ l.length ≤ 1000 ∧ v = .w (.c (slD 1 (l.map elU)))
noncomputable def e86 : Nat × Ext := (86, .fn (ofG RRu) [])
theorem c86 : Ok e86 := fn_of_go_g (exts := [e47]) (ok1 c47 ok0) rfl [] rfl _ (by
  rintro ps pv ⟨l, rfl, ha, hl, rfl⟩
  refine runes86 _ rfl rfl l ha hl _ _ fun c s' h => ?_
  obtain ⟨bs, hf⟩ := SlAt.frz h (elU_plain _) (Nat.le_refl 1)
  refine ⟨bs, ?_⟩
  simp only [vc, frzV, frzW, hf])
theorem callR_ru {X : T Ext} (h86 : (En X).ext.get 86 = some (.fn (ofG RRu) [])) (l : List UInt8) (ha : asc l) (hl : l.length ≤ 1000) (s : St) : CallR (En X) 86 [.c (.str (Str.ofL l))] s (.w (.c (slD 1 (l.map elU)).toC)) s :=
  callR_fn (ps := [.c (.str (Str.ofL l))]) (pv := .w (.c (slD 1 (l.map elU)))) h86 (ofG_eq ⟨l, rfl, ha, hl, rfl⟩ (by
    rintro v' ⟨l', h1, _, _, rfl⟩
    rw [str_one h1])) rfl
theorem els_slD (z : Nat) (l : List (List D)) : els (slD z l) = l := by cases l <;> rfl
theorem isEls_slD {z : Nat} {l : List (List D)} (h : ∀ x ∈ l, x.length = z) : IsEls z (slD z l) := by
  cases l with
  | nil => exact .inl rfl
  | cons x l => exact .inr ⟨_, rfl, h⟩
theorem name68 (X : T Ext) (hX : (En X).ext.get 68 = none) (h86 : (En X).ext.get 86 = some (.fn (ofG RRu) [])) (h67 : (En X).ext.get 67 = some (.fn (ofG (RB1 .i32 moreN)) [])) (h85 : (En X).ext.get 85 = some (.fn (ofG (RB1 .i32 firstN)) []))
    (l : List UInt8) (ha : asc l) (hl : l.length ≤ 1000) (s : St) (K : V → St → Prop) (hK : ∀ s', K (.w (.c (.bool (nameB l)))) s') : goC (En X) 68 [.c (.str (Str.ofL l))] s K := by
  refine goC_body hX (kp68 X) (fn68 X) rfl (by kernel_rfl) ?_
  have hres : Tryd.f68.results.toList = [.tmp 2] := rfl
  have hie : IsEls 1 (slD 1 (l.map elU)) := isEls_slD (elU_one l)
  have hlen : ∀ look, len (En X) 108 look (slD 1 (l.map elU)).toC = some l.length := fun look => by rw [len_els (us108 X) hie, els_slD, List.length_map]
  have hix : ∀ {i : Nat} {c : UInt8}, l[i]? = some c → indexAddr (En X) 108 (slD 1 (l.map elU)).toC (Int.ofNat i) = some (.dp (elU c) 0) := fun {i c} h => index_els (us108 X) (sz21 X) hie (by rw [els_slD, List.getElem?_map, h]; rfl)
  have hld : ∀ c, loadD (En X) 21 (elU c) 0 = some (.c (.int .i32 (Int.ofNat c.toNat))) := fun c => by rw [ld21]; rfl
  simp only [zEV, Nat.reduceShiftRight, Nat.reduceMod, Nat.reduceEqDiff, Nat.reduceAdd, ↓reduceIte, reduceCtorEq]
  refine go_call _ _ _ _ _ _ (ws := [.c (.str (Str.ofL l))]) rfl (by simp only [zEA, Nat.reduceShiftRight, Nat.reduceMod, Nat.reduceEqDiff, Nat.reduceAdd, ↓reduceIte, reduceCtorEq, argsOf_cons, argsOf_nil]) ?_
  refine goC_of (callR_ru h86 l ha hl _) ?_
  generalize hd : (slD 1 (l.map elU)).toC = dc at *
  simp only [zEV, Nat.reduceShiftRight, Nat.reduceMod, Nat.reduceEqDiff, Nat.reduceAdd, ↓reduceIte, reduceCtorEq]
  refine go_loop (goL_inv (fun n' a' s' => ∃ i, n' = l.length - i ∧ i ≤ l.length ∧ Has a' 3 (vc dc) ∧ Has a' 4 (vc (.int .i64 (Int.ofNat i)))) (n := l.length)
    ⟨0, rfl, Nat.zero_le _, ⟨rfl, rfl⟩, ⟨rfl, rfl⟩⟩ ?_)
  rintro n' a' s' ⟨i, rfl, hi, ⟨g3, k3⟩, ⟨g4, k4⟩⟩
  by_cases hlt : i < l.length
  · have hlt' : (Int.ofNat i < Int.ofNat l.length) = True := eq_true (Int.ofNat_lt.2 hlt)
    have hsu := nat_succ (show i < 9223372036854775807 by omega)
    obtain ⟨c, hc⟩ : ∃ c, l[i]? = some c := ⟨_, List.getElem?_eq_getElem hlt⟩
    have hx := hix hc
    simp only [zEV, Nat.reduceShiftRight, Nat.reduceMod, Nat.reduceEqDiff, Nat.reduceAdd, ↓reduceIte, reduceCtorEq, g3, k3, g4, k4, hlen, hlt', hx, hld]
    refine go_call _ _ _ _ _ _ (ws := [.c (.int .i32 (Int.ofNat c.toNat))]) rfl (by simp only [zEV, Nat.reduceShiftRight, Nat.reduceMod, Nat.reduceEqDiff, Nat.reduceAdd, ↓reduceIte, reduceCtorEq, g3, k3, g4, k4, argsOf_cons, argsOf_nil]) ?_
    refine goC_of (callR_B1 h67 c.toNat_lt _) ?_
    have hm := ha c (List.mem_of_getElem? hc)
    simp only [zEV, Nat.reduceShiftRight, Nat.reduceMod, Nat.reduceEqDiff, Nat.reduceAdd, ↓reduceIte, reduceCtorEq, g3, k3, g4, k4, hm, hsu]
    refine ⟨_, ?_, i + 1, rfl, hlt, ⟨?_, ?_⟩, ⟨?_, ?_⟩⟩
    all_goals first | (simp only [zEA, Nat.reduceShiftRight, Nat.reduceMod, Nat.reduceEqDiff, Nat.reduceAdd, ↓reduceIte, reduceCtorEq, g3, k3, g4, k4]; done) | omega
  · have hlt' : (Int.ofNat i < Int.ofNat l.length) = False := eq_false (fun h => hlt (Int.ofNat_lt.1 h))
    cases hll : l with
    | nil =>
      have e0 : (0 < Int.ofNat l.length) = False := eq_false (by rw [hll]; decide)
      rw [hll] at hK
      simp only [zEV, Nat.reduceShiftRight, Nat.reduceMod, Nat.reduceEqDiff, Nat.reduceAdd, ↓reduceIte, reduceCtorEq, g3, k3, g4, k4, hlen, hlt', e0, hres]
      exact hK _
    | cons c r =>
      have e0 : (0 < Int.ofNat l.length) = True := eq_true (by rw [hll]; exact Int.natCast_pos.2 (by simp))
      by_cases h12 : l.length ≤ 12
      · have e1 : (Int.ofNat l.length ≤ 12) = True := eq_true (by show ((l.length : Nat) : Int) ≤ 12; omega)
        have hx := hix (i := 0) (c := c) (by rw [hll]; rfl)
        have hx : indexAddr (En X) 108 dc 0 = some (.dp (elU c) 0) := hx
        have hnb : nameB l = firstN c.toNat := by
          rw [hll] at h12 ⊢
          show (firstN c.toNat && Nat.ble (c :: r).length 12) = _
          rw [Nat.ble_eq_true_of_le h12, Bool.and_true]
        rw [hnb] at hK
        simp only [zEV, Nat.reduceShiftRight, Nat.reduceMod, Nat.reduceEqDiff, Nat.reduceAdd, ↓reduceIte, reduceCtorEq, g3, k3, g4, k4, hlen, hlt', e0, e1, hx, hld]
        refine go_call _ _ _ _ _ _ (ws := [.c (.int .i32 (Int.ofNat c.toNat))]) rfl (by simp only [zEV, Nat.reduceShiftRight, Nat.reduceMod, Nat.reduceEqDiff, Nat.reduceAdd, ↓reduceIte, reduceCtorEq, g3, k3, g4, k4, argsOf_cons, argsOf_nil]) ?_
        refine goC_of (callR_B1 h85 c.toNat_lt _) ?_
        simp only [zEV, Nat.reduceShiftRight, Nat.reduceMod, Nat.reduceEqDiff, Nat.reduceAdd, ↓reduceIte, reduceCtorEq, g3, k3, g4, k4, hres]
        exact hK _
      · have e1 : (Int.ofNat l.length ≤ 12) = False := eq_false (by show ¬ ((l.length : Nat) : Int) ≤ 12; omega)
        have hnb : nameB l = false := by
          rw [hll] at h12 ⊢
          show (firstN c.toNat && Nat.ble (c :: r).length 12) = _
          rw [show Nat.ble (c :: r).length 12 = false by cases h : Nat.ble (c :: r).length 12 with | false => rfl | true => exact absurd (Nat.le_of_ble_eq_true h) h12, Bool.and_false]
        rw [hnb] at hK
        simp only [zEV, Nat.reduceShiftRight, Nat.reduceMod, Nat.reduceEqDiff, Nat.reduceAdd, ↓reduceIte, reduceCtorEq, g3, k3, g4, k4, hlen, hlt', e0, e1, hres]
        exact hK _
def RNm (ps : List PW) (v : PV) : Prop := ∃ l, ps = [.c (.str (Str.ofL l))] ∧ asc l ∧ l.length ≤ 1000 ∧ v = .w (.c (.bool (nameB l)))
noncomputable def e68 : Nat × Ext := (68, .fn (ofG RNm) [])
theorem c68 : Ok e68 := fn_of_go_g (exts := [e86, e67, e85]) (ok1 c86 (ok1 c67 (ok1 c85 ok0))) rfl [] rfl _ (by
  rintro ps pv ⟨l, rfl, ha, hl, rfl⟩
  exact name68 _ rfl rfl rfl rfl l ha hl _ _ fun s' => ⟨[], rfl⟩)
theorem callR_nm {X : T Ext} (h68 : (En X).ext.get 68 = some (.fn (ofG RNm) [])) (l : List UInt8) (ha : asc l) (hl : l.length ≤ 1000) (s : St) : CallR (En X) 68 [.c (.str (Str.ofL l))] s (.w (.c (.bool (nameB l)))) s :=
  callR_fn (ps := [.c (.str (Str.ofL l))]) (pv := .w (.c (.bool (nameB l)))) h68 (ofG_eq ⟨l, rfl, ha, hl, rfl⟩ (by
    rintro v' ⟨l', h1, _, _, rfl⟩
    rw [str_one h1])) rfl
end Ar
