import Derived.Test.YtnjfcaphpemihaaGreatDoorEwJ
import Derived.Test.YtnjfcaphpemihaaGreatDoorEwG
import Derived.Test.YtnjfcaphpemihaaGreatDoorEwI
set_option linter.unusedVariables false
set_option linter.unusedSimpArgs false
namespace Ev
open Go
noncomputable def frzRun (r : VS) : Option PV := match r with
  | .ok v s => match frzV s.h.get v with
    | some (p, _) => some p
    | none => none
  | .no => none
theorem frzRun_some {r : VS} {pv : PV} (h : frzRun r = some pv) : ∃ v s bs, r = .ok v s ∧ frzV s.h.get v = some (pv, bs) := by
  unfold frzRun at h
  split at h
  · rename_i v s
    split at h
    · rename_i p bs e
      cases h
      exact ⟨v, s, bs, rfl, e⟩
    · cases h
  · cases h
theorem ext_frz {P : Program} {kps : List (Nat × Nat)} {exts : List (Nat × Ext)} (hany : P.follows .mixedOrders = true) (ht : typesOk P = true) (hk : kps.all (fun p => fnOk P p.1) = true) (hx : ∀ p ∈ exts, ExtOne P P.globals.size p.1 p.2) {f : Nat} (gs : List (Nat × List C))
    (hgs : gs.all (fun p => and (p.2.all plainC) (decide (p.1 < P.globals.size))) = true) (hf : (pairT exts .nil).get f = none) (F : List PW → Option PV) (lf n : Nat)
    (hr : ∀ ps pv, F ps = some pv → frzRun (runF (envOf P exts kps) lf (n + 1) f (ps.map PW.toW) (st0 gs P.globals.size)) = some pv) : ExtOne P P.globals.size f (.fn F gs) :=
  ext_fn hgs (pure_of_run hany ht hk hx hf gs F fun ps pv hF => by
    obtain ⟨v, s, bs, h1, h2⟩ := frzRun_some (hr ps pv hF)
    exact ⟨lf, n, v, s, bs, h1, h2⟩)
theorem frz_sl {s : St} {b z : Nat} {cap : Option Nat} {ls : List (List D)} (hl : ∀ x ∈ ls, x.length = z) (h : RowAt s b (cellsD ls.flatten)) (hp : ls.flatten.all D.plain = true) (hz : 1 ≤ z) (hc : capOk cap ls.length = true) (n : Nat) :
    frzC s.h.get (n + 1) (.sl b 0 ls.length cap z) = some (.sl z ls, [b]) := by
  obtain ⟨q, sh, anc, hrow, hq⟩ := h
  have hfr : frzRow s.h.get b = some ⟨q, (cellsD ls.flatten).length, true, sh, anc⟩ := by unfold frzRow; rw [hrow]
  have hlen := cells_len z ls hl
  simp only [frzC, hfr]
  rw [show (and (capOk cap ls.length) (Nat.ble 1 z)) = true by rw [hc, nble_true hz]; rfl]
  simp only []
  have hr : readR ⟨q, (cellsD ls.flatten).length, true, sh, anc⟩ 0 (Nat.mul ls.length z) = some (cellsD ls.flatten) := by
    rw [readR_eq _ _ _ _ _ _ _ (by rw [hlen]; simp)]
    show q.getL (ls.length * z) 0 = _
    rw [← hlen]
    exact getL_all hq
  rw [hr]
  simp only []
  rw [mapO_plain s.h.get n ls.flatten hp]
  simp only [frzSl, flatten_chunk z ls hl]
theorem row_newC (s : St) (l : List C) : (s.new (.row (mkRow l))).h.get s.nx = some (.row (mkRow l)) := by
  rw [St.new_h]
  show (if s.nx = s.nx then _ else _) = _
  rw [if_pos rfl]
theorem readNew (s : St) (l : List C) : readL (s.new (.row (mkRow l))).h.get s.nx 0 l.length = some l := by
  rw [readL_row (row_newC s l), mkRow_eq, readR_ofL, if_pos (by omega)]
  simp
theorem app_lit {E : Env} {t z : Nat} {j : TI} (s : St) {l0 l : List (List D)} {d : D} (hj : elemTI E t = some j) (hs : j.size = z) (h0 : ∀ x ∈ l0, x.length = z) (h1 : 1 ≤ l0.length) (hl : ∀ x ∈ l, x.length = z) (hd : IsEls z d) (he : els d = l) (hz : 1 ≤ z)
    (p0 : l0.flatten.all D.plain = true) (p1 : l.flatten.all D.plain = true) (hb : (l0.length + l.length) * j.bytes ≤ maxBytes) :
    ∃ c s' b, append E t (.sl s.nx 0 l0.length (some l0.length) z) d.toC (s.new (.row (mkRow (cellsD l0.flatten)))) = .ok c s' ∧ (∀ n, frzC s'.h.get (n + 1) c = some (.sl z (l0 ++ l), [b])) ∧ s.nx ≤ b ∧ b < s'.nx ∧ s.nx ≤ s'.nx ∧ ∀ x, x < s.nx → s'.h.get x = s.h.get x := by
  subst hs he
  have hnx : (s.new (.row (mkRow (cellsD l0.flatten)))).nx = s.nx + 1 := St.new_nx _ _
  have hn : newCells (s.new (.row (mkRow (cellsD l0.flatten)))).h.get j.size d.toC = some ((els d).length, cellsD (els d).flatten) := newCells_els hd
  by_cases hem : els d = []
  · refine ⟨.sl s.nx 0 l0.length (some l0.length) j.size, s.new (.row (mkRow (cellsD l0.flatten))), s.nx, ?_, fun n => ?_, Nat.le_refl _, by omega, by omega, fun x hx => new_old s _ hx⟩
    · unfold append
      rw [hj]
      simp only [hn, hem]
      rfl
    · rw [hem, List.append_nil]
      exact frz_sl h0 (RowAt.of (LRow.new s _)) p0 hz rfl n
  · obtain ⟨m, hm⟩ : ∃ m, (els d).length = m + 1 := ⟨(els d).length - 1, by have := List.length_pos_iff.2 hem; omega⟩
    have hr := readNew s (cellsD l0.flatten)
    have hlen := cells_len j.size l0 h0
    have hro : ∀ s1 : St, s1 = s.new (.row (mkRow (cellsD l0.flatten))) → append E t (.sl s.nx 0 l0.length (some l0.length) j.size) d.toC s1 = .ok (.sl s1.nx 0 (l0.length + (m + 1)) none j.size) (s1.new (.row (mkRow (cellsD l0.flatten ++ cellsD (els d).flatten)))) := by
      rintro s1 hs1
      rw [← hs1] at hr hn
      unfold append
      rw [hj]
      simp only [hn, hm]
      show appNz j (m + 1) (cellsD (els d).flatten) (.sl s.nx 0 l0.length (some l0.length) j.size) s1 = _
      unfold appNz appSl
      simp only []
      rw [show (and (Nat.beq j.size j.size) (Nat.ble (Nat.mul (Nat.add l0.length (m + 1)) j.bytes) maxBytes)) = true by
        rw [show Nat.beq j.size j.size = true from Nat.beq_refl _, nble_true (by show (l0.length + (m + 1)) * j.bytes ≤ maxBytes; rw [← hm]; exact hb)]; rfl]
      simp only []
      rw [show Nat.ble (Nat.add l0.length (m + 1)) l0.length = false from nble_false (by show ¬ (l0.length + (m + 1) ≤ l0.length); omega)]
      simp only []
      unfold appGrow
      rw [show readL s1.h.get s.nx 0 (Nat.mul l0.length j.size) = some (cellsD l0.flatten) by
        rw [show Nat.mul l0.length j.size = (cellsD l0.flatten).length from hlen.symm]; exact hr]
      rfl
    refine ⟨_, _, (s.new (.row (mkRow (cellsD l0.flatten)))).nx, hro _ rfl, fun n => ?_, ?_, ?_, ?_, fun x hx => ?_⟩
    · generalize hs1 : s.new (.row (mkRow (cellsD l0.flatten))) = s1
      have hcat : cellsD l0.flatten ++ cellsD (els d).flatten = cellsD (l0 ++ els d).flatten := by rw [List.flatten_append]; unfold cellsD; rw [List.map_append]
      rw [hcat, show l0.length + (m + 1) = (l0 ++ els d).length by rw [List.length_append, hm]]
      exact frz_sl (fun x hx => (List.mem_append.1 hx).elim (h0 x) (hl x)) (RowAt.of (LRow.new s1 _)) (by rw [List.flatten_append, List.all_append, p0, p1]; rfl) hz rfl n
    · rw [hnx]; omega
    · rw [St.new_nx _ (.row (mkRow (cellsD l0.flatten ++ cellsD (els d).flatten)))]; omega
    · rw [St.new_nx _ (.row (mkRow (cellsD l0.flatten ++ cellsD (els d).flatten))), hnx]; omega
    · rw [new_old _ _ (by omega), new_old _ _ hx]
theorem kill_ne {h : T Blk} {b x : Nat} (hx : x ≠ b) : (kill h [b]).get x = h.get x := by
  show (h.set b .dead).get x = _
  rw [T.get_set, if_neg hx]
theorem mark_ne {h : T Blk} {b x : Nat} (hx : x ≠ b) : (markL h [b]).get x = h.get x := by
  show (h.set b _).get x = _
  rw [T.get_set, if_neg hx]
theorem callR_row {E : Env} {f b : Nat} {F : List PW → Option PV} {gs : List (Nat × List C)} {x : List D} {c : C} {d : D} {s : St} {pv : PV} (hx : E.ext.get f = some (.fn F gs)) (hg : rowsAre s.h.get gs = true) (hp : x.all D.plain = true) (hc : frzC s.h.get 2000 c = some (d, [b]))
    (hF : F [.agg x, .c d] = some pv) (hs : pv.scal = false) : CallR E f [.agg (cellsD x), .c c] s pv.toV (markS s [b]) := by
  refine callR_ext hx ?_
  show (match rowsAre s.h.get gs with | true => extFn F [.agg (cellsD x), .c c] s | false => .no) = _
  rw [hg]
  have hz : frzWs s.h.get [.agg (cellsD x), .c c] = some ([.agg x, .c d], [] ++ ([b] ++ [])) := by
    have h1 : frzW s.h.get (.agg (cellsD x)) = some (.agg x, []) := by unfold frzW; simp only []; rw [mapO_plain s.h.get 2000 x hp]
    have h2 : frzW s.h.get (.c c) = some (.c d, [b]) := by unfold frzW; simp only []; rw [hc]
    simp only [frzWs, h1, h2]
  simp only [extFn, hz, hF, hs]
  rfl
theorem rows_congr {l1 l2 : Look} : ∀ {gs : List (Nat × List C)}, (∀ p ∈ gs, l2 p.1 = l1 p.1) → rowsAre l1 gs = true → rowsAre l2 gs = true := by
  intro gs
  induction gs with
  | nil => intro _ h; exact h
  | cons p gs ih =>
    intro h1 h2
    have hp : rowIs l2 p.1 p.2 = rowIs l1 p.1 p.2 := by unfold rowIs rowOf; rw [h1 p (by simp)]
    unfold rowsAre at h2 ⊢
    simp only [hp]
    cases hr : rowIs l1 p.1 p.2 with
    | false => rw [hr] at h2; cases h2
    | true => rw [hr] at h2; exact ih (fun q hq => h1 q (by simp [hq])) h2
theorem nBuildSlice_eq (E : Env) (a : A) (t n : Nat) (ps : List (Nat × Operand)) (id : Nat) : nBuildSlice E a t n ps id = match partsOf a ps with
  | some l => buildSlice E t n l id
  | none => none := rfl
theorem partsOf_nil (a : A) : partsOf a [] = some [] := rfl
theorem partsOf_cons (a : A) (i : Nat) (x : Operand) (l : List (Nat × Operand)) : partsOf a ((i, x) :: l) = match opW a x with
  | none => none
  | some w => match partsOf a l with
    | none => none
    | some r => some ((i, w) :: r) := rfl
theorem putL_all {l r : List C} (h : r.length = l.length) : putL l 0 r = r := by unfold putL; simp [h]
theorem row_written (s : St) (zs r : List C) (h : r.length = zs.length) : ∃ s', writeL (s.new (.row (mkRow zs))) s.nx 0 r = some s' ∧ LRow s' s.nx r ∧ s'.nx = s.nx + 1 ∧ ∀ x, x < s.nx → s'.h.get x = s.h.get x := by
  obtain ⟨s', h1, h2, h3, h4⟩ := (LRow.new s zs).write (o := 0) (r := r) (by omega)
  rw [putL_all h] at h2
  exact ⟨s', h1, h2, by rw [h3, St.new_nx], fun x hx => by rw [h4 x (by omega), new_old s _ hx]⟩
theorem rMax_eq (a : A) (x y : Operand) : rMax a x y = match opC a x with
  | some (.int k x) => match opC a y with
    | some (.int _ y) => minI (iLe y x) k x y
    | _ => none
  | _ => none := rfl
theorem minI_b (b : Bool) (k : IntKind) (x y : Int) : minI b k x y = some (vc (.int k (if b = true then x else y))) := by cases b <;> rfl
theorem rMin_eq (a : A) (x y : Operand) : rMin a x y = match opC a x with
  | some (.int k x) => match opC a y with
    | some (.int _ y) => minI (iLe x y) k x y
    | _ => none
  | _ => none := rfl
theorem rBuild_eq (E : Env) (a : A) (t : Nat) (ps : List (Nat × Operand)) : rBuild E a t ps = match partsOf a ps with
  | some l => retW (build E t l)
  | none => none := rfl
theorem rIndex_eq (E : Env) (a : A) (t : Nat) (x i : Operand) : rIndex E a t x i = match opW a x with
  | some w => match opI a i with
    | some n => retW (index E t w n)
    | none => none
  | none => none := rfl
theorem inB_nat {k n : Nat} (h : k < n) : inB (Int.ofNat k) n = some k := by
  unfold inB
  simp only []
  rw [show Nat.ble (Nat.succ k) n = true from nble_true h]
section
variable {E : Env} {t : Nat}
theorem len_ofL (hu : undT E t = some .string) (look : Look) (l : List UInt8) : len E t look (.str (Str.ofL l)) = some l.length := by
  unfold len; rw [hu]; rfl
theorem index_str (hu : undT E t = some .string) (l : List UInt8) {i : Nat} {c : UInt8} (h : l[i]? = some c) : index E t (.c (.str (Str.ofL l))) (Int.ofNat i) = some (.c (.int .u8 (Int.ofNat c.toNat))) := by
  obtain ⟨hi, hc⟩ := List.getElem?_eq_some_iff.1 h
  unfold index
  rw [hu]
  show (match inB (Int.ofNat i) l.length with
    | some m => some (W.c (.int .u8 (Int.ofNat ((Str.ofL l).at m))))
    | none => none) = _
  rw [inB_nat hi]
  simp only []
  rw [Str.at_ofL l i hi, hc]
theorem rSlice_lo (E : Env) (look : Look) (a : A) (t : Nat) (x lo : Operand) : rSlice E look a t x (some lo) none none = match opC a x with
  | none => none
  | some c => match opC a lo with
    | none => none
    | some h => retC (slice E t c (some h) none none look) := by
  unfold rSlice
  simp only [optC]
  cases opC a x with
  | none => rfl
  | some c =>
    simp only []
    cases opC a lo <;> rfl
theorem rSlice_hi (E : Env) (look : Look) (a : A) (t : Nat) (x hi : Operand) : rSlice E look a t x none (some hi) none = match opC a x with
  | none => none
  | some c => match opC a hi with
    | none => none
    | some h => retC (slice E t c none (some h) none look) := by
  unfold rSlice
  simp only [optC]
  cases opC a x with
  | none => rfl
  | some c =>
    simp only []
    cases opC a hi <;> rfl
theorem slice_sdrop (hu : undT E t = some .string) (look : Look) (l : List UInt8) {k : Nat} (hk : k ≤ l.length) : slice E t (.str (Str.ofL l)) (some (.int .i64 (Int.ofNat k))) none none look = some (.str (Str.ofL (l.drop k))) := by
  have h : slice E t (.str (Str.ofL l)) (some (.int .i64 (Int.ofNat k))) none none look = some (.str ((Str.ofL l).sub k l.length)) := by
    unfold slice
    rw [hu]
    show cutStr (Str.ofL l) none (cut3 (some (.int .i64 (Int.ofNat k))) none none l.length l.length) = _
    have : cut3 (some (.int .i64 (Int.ofNat k))) none none l.length l.length = some (k, l.length, l.length) := by
      unfold cut3 bound
      simp only [inB_nat (show k < l.length + 1 by omega)]
    rw [this]; rfl
  rw [h, Str.sub_ofL _ _ _ hk (Nat.le_refl _), List.take_of_length_le (by simp)]
theorem slice_stake (hu : undT E t = some .string) (look : Look) (l : List UInt8) {k : Nat} (hk : k ≤ l.length) : slice E t (.str (Str.ofL l)) none (some (.int .i64 (Int.ofNat k))) none look = some (.str (Str.ofL (l.take k))) := by
  have h : slice E t (.str (Str.ofL l)) none (some (.int .i64 (Int.ofNat k))) none look = some (.str ((Str.ofL l).sub 0 k)) := by
    unfold slice
    rw [hu]
    show cutStr (Str.ofL l) none (cut3 none (some (.int .i64 (Int.ofNat k))) none l.length l.length) = _
    have : cut3 none (some (.int .i64 (Int.ofNat k))) none l.length l.length = some (0, k, l.length) := by
      unfold cut3 bound
      simp only [inB_nat (show k < l.length + 1 by omega)]
    rw [this]; rfl
  rw [h, Str.sub_ofL _ _ _ (by omega) hk, List.drop_zero, Nat.sub_zero]
theorem slice_drop {e z : Nat} (hu : undT E t = some (.slice e)) (hz : sizeT E e = some z) {look : Look} {l : List (List D)} {k : Nat} (hk : k ≤ l.length) : slice E t (.dat z l) (some (.int .i64 (Int.ofNat k))) none none look = some (.dat z (l.drop k)) := by
  unfold slice
  rw [hu]
  simp only [hz, nbeq_self, lenA_zero]
  have : cut3 (some (.int .i64 (Int.ofNat k))) none none l.length l.length = some (k, l.length, l.length) := by
    unfold cut3 bound
    simp only [inB_nat (Nat.lt_succ_of_le hk)]
  rw [this]
  simp only [cutDat]
  rw [List.take_of_length_le (by simp)]
end
theorem callR_ib {E : Env} {f : Nat} (h : E.ext.get f = some .indexByte) (l : List UInt8) (c : UInt8) (s : St) : CallR E f [.c (.str (Str.ofL l)), .c (.int .u8 (Int.ofNat c.toNat))] s (vc (.int .i64 (findB (Str.ofL l) c.toNat l.length 0))) s := by
  refine callR_ext h ?_
  have hc := c.toNat_lt
  show (match Nat.ble (Nat.succ c.toNat) 256 with
    | true => VS.ok (vc (.int .i64 (findB (Str.ofL l) c.toNat (Str.ofL l).len 0))) s
    | false => .no) = _
  rw [nble_true (by omega)]
  rfl
theorem findB_at (a b : List UInt8) (c : UInt8) : ∀ (p q : List UInt8), a = p ++ q → c ∉ q → findB (Str.ofL (a ++ c :: b)) c.toNat (q.length + 1 + b.length) p.length = Int.ofNat a.length := by
  intro p q
  induction q generalizing p with
  | nil =>
    intro h _
    have h : p = a := by simpa using h.symm
    subst h
    rw [show ([] : List UInt8).length + 1 + b.length = b.length + 1 by simp; omega]
    unfold findB
    rw [Str.at_ofL _ _ (by simp)]
    simp [Nat.beq_refl]
  | cons x q ih =>
    intro h hc
    rw [show (x :: q).length + 1 + b.length = (q.length + 1 + b.length) + 1 by simp; omega]
    unfold findB
    have hlt : p.length < (a ++ c :: b).length := by rw [h]; simp
    have hx : (a ++ c :: b)[p.length] = x := by
      simp only [h, List.append_assoc, List.cons_append]
      rw [List.getElem_append_right (Nat.le_refl _)]
      simp
    rw [Str.at_ofL _ _ hlt, hx]
    have hne : Nat.beq x.toNat c.toNat = false := by
      cases hb : Nat.beq x.toNat c.toNat with
      | false => rfl
      | true => exact absurd (UInt8.toNat_inj.1 (Nat.eq_of_beq_eq_true hb)) (by rintro rfl; simp at hc)
    rw [hne]
    have := ih (p ++ [x]) (by rw [h]; simp) (fun hh => hc (by simp [hh]))
    simp only [List.length_append, List.length_singleton] at this
    exact this
theorem findB_found (a b : List UInt8) (c : UInt8) (h : c ∉ a) : findB (Str.ofL (a ++ c :: b)) c.toNat (a ++ c :: b).length 0 = Int.ofNat a.length := by
  have := findB_at a b c [] a rfl h
  rw [show (a ++ c :: b).length = a.length + 1 + b.length by simp; omega]
  exact this
section
variable {P : Program} {B : Nat}
theorem w_str {t : TypeId} (hu : P.underlying t = some .string) {ds : List D} (h : ShapeW P B t ds) : ∃ l, ds = [.str (Str.ofL l)] ∧ l.length ≤ B := by
  cases h with
  | bool _ b h => rw [hu] at h; cases h
  | int _ k n h => rw [hu] at h; cases h
  | str _ l h h1 => exact ⟨l, rfl, h1⟩
  | nils _ e' h => rw [hu] at h; cases h
  | sl _ e' l h => rw [hu] at h; cases h
  | struct _ fs l h => rw [hu] at h; cases h
theorem w_int {t : TypeId} {k : IntKind} (hu : P.underlying t = some (.int k)) {ds : List D} (h : ShapeW P B t ds) : ∃ n, ds = [.int k n] ∧ k.min ≤ n ∧ n ≤ k.max := by
  cases h with
  | bool _ b h => rw [hu] at h; cases h
  | int _ k' n h h1 h2 => rw [hu] at h; cases h; exact ⟨n, rfl, h1, h2⟩
  | str _ l h h1 => rw [hu] at h; cases h
  | nils _ e' h => rw [hu] at h; cases h
  | sl _ e' l h => rw [hu] at h; cases h
  | struct _ fs l h => rw [hu] at h; cases h
theorem w_texts {t : TypeId} (hu : P.underlying t = some .string) : ∀ {l : List (List D)}, (∀ x ∈ l, ShapeW P B t x) → ∃ ls : List (List UInt8), l = ls.map (fun z => [D.str (Str.ofL z)]) ∧ ∀ z ∈ ls, z.length ≤ B := by
  intro l
  induction l with
  | nil => intro _; exact ⟨[], rfl, fun z h => by cases h⟩
  | cons x l ih =>
    intro h
    obtain ⟨z, rfl, hz⟩ := w_str hu (h x (by simp))
    obtain ⟨ls, rfl, hl⟩ := ih fun y hy => h y (by simp [hy])
    exact ⟨z :: ls, rfl, fun y hy => (List.mem_cons.1 hy).elim (fun e => e ▸ hz) (hl y)⟩
theorem w_slice {t e : TypeId} (hu : P.underlying t = some (.slice e)) {ds : List D} (h : ShapeW P B t ds) : ds = [.nils] ∨ ∃ l, ds = [.sl (P.cellsOf e) l] ∧ l.length * P.bytesOf e ≤ B ∧ ∀ x ∈ l, ShapeW P B e x := by
  cases h with
  | bool _ b h => rw [hu] at h; cases h
  | int _ k n h => rw [hu] at h; cases h
  | str _ l h => rw [hu] at h; cases h
  | nils _ e' h => exact .inl rfl
  | sl _ e' l h h1 h2 h3 => rw [hu] at h; cases h; exact .inr ⟨l, rfl, h3, h2⟩
  | struct _ fs l h => rw [hu] at h; cases h
end
theorem LRow.over {s : St} {b : Nat} {l r : List C} (h : LRow s b l) (hr : r.length = l.length) : ∃ s', writeL s b 0 r = some s' ∧ LRow s' b r ∧ s'.nx = s.nx ∧ ∀ x, x ≠ b → s'.h.get x = s.h.get x := by
  obtain ⟨s', h1, h2, h3, h4⟩ := h.write (o := 0) (r := r) (by omega)
  rw [putL_all hr] at h2
  exact ⟨s', h1, h2, h3, h4⟩
theorem LRow.one {s : St} {b o : Nat} {l : List C} (c : C) (h : LRow s b l) (ho : o < l.length) : ∃ s', writeL s b o [c] = some s' ∧ LRow s' b (l.set o c) ∧ s'.nx = s.nx ∧ ∀ x, x ≠ b → s'.h.get x = s.h.get x := by
  obtain ⟨s', h1, h2, h3, h4⟩ := h.write (o := o) (r := [c]) (by simp; omega)
  have : putL l o [c] = l.set o c := by
    unfold putL
    rw [List.set_eq_take_append_cons_drop, if_pos ho]
    simp
  rw [this] at h2
  exact ⟨s', h1, h2, h3, h4⟩
theorem lor_eq (a b : Nat) : Nat.lor a b = a ||| b := rfl
theorem land_eq (a b : Nat) : Nat.land a b = a &&& b := rfl
theorem shl_eq (a b : Nat) : Nat.shiftLeft a b = a <<< b := rfl
theorem nbeq_eq (a b : Nat) : (Nat.beq a b = true) = (a = b) := propext ⟨Nat.eq_of_beq_eq_true, fun h => by subst h; exact Nat.beq_refl _⟩
theorem again_eq (E : Env) (f : Env → A → Look → Option V) (a : A) (s : St) (v : V) : again E f a s v = match f E a s.h.get with
  | some u => V.same u v
  | none => false := rfl
theorem V_same_toC (d : D) : V.same (.w (.c d.toC)) (.w (.c d.toC)) = true := C.same_toC d
theorem V_same_dat (z : Nat) (l : List (List D)) : V.same (.w (.c (.dat z l))) (.w (.c (.dat z l))) = true := C.same_toC (.sl z l)
theorem callR_fn_g {E : Env} {f : Nat} {F : List PW → Option PV} {gs : List (Nat × List C)} {ps : List PW} {pv : PV} {s : St} (hx : E.ext.get f = some (.fn F gs)) (hg : rowsAre s.h.get gs = true) (hF : F ps = some pv) (hp : ps.all PW.plain = true) : CallR E f (ps.map PW.toW) s pv.toV s := by
  refine callR_ext hx ?_
  show (match rowsAre s.h.get gs with | true => extFn F (ps.map PW.toW) s | false => .no) = _
  rw [hg]
  simp only [extFn, frzWs_plain s.h.get ps hp, hF]
  cases pv.scal <;> simp [markS_nil]
theorem dt_indexAddr {E : Env} {ks : Nat} {k : List Fr} {Q : Ex → A → St → Prop} {a : A} {s : St} {tl : List Oper} (dst : Option Nat) (ty : TypeId) (pos : String) (af : Array Edge) (t : TypeId) (x f : Operand) {v : V} (h : rIndexAddr E a t x f = some v) : dt E ks (⟨dst, .indexAddr t x f, ty, pos, af, none⟩ :: tl) a s k Q = dt E ks tl (putA ks a dst v) s k Q := by
  unfold dt
  simp only [tailOps, tailOp, isPure, opK, h]
theorem dt_storeL {E : Env} {ks : Nat} {k : List Fr} {Q : Ex → A → St → Prop} {a : A} {s s' : St} {dst : Option Nat} {ty : TypeId} {pos : String} {af : Array Edge} {t : TypeId} {x v : Operand} {b o : Nat} {l : List C} {w : W} (hr : LRow s b l) (hp : opP a x = some (b, o)) (hv : opW a v = some w) (hs : store E t s b o w = some s') (h : go E ks k (putA ks a dst .un).flush s' Q) :
    dt E ks [⟨dst, .store t x v, ty, pos, af, none⟩] a s k Q := by
  obtain ⟨q, h1, _⟩ := hr.at_
  exact dt_store dst ty pos af hp (rowOf_row h1) rfl hv hs h
def OkE (P : Program) (q : Nat × Ext) : Prop := ExtOne P P.globals.size q.1 q.2
def OksE (P : Program) (l : List (Nat × Ext)) : Prop := ∀ q ∈ l, OkE P q
theorem oks0 {P : Program} : OksE P [] := fun q h => by cases h
theorem oks1 {P : Program} {q : Nat × Ext} {l : List (Nat × Ext)} (h : OkE P q) (hl : OksE P l) : OksE P (q :: l) := by
  intro x hx
  rcases List.mem_cons.1 hx with rfl | hx
  · exact h
  · exact hl x hx
theorem fn_goE {P : Program} {kps : List (Nat × Nat)} {exts : List (Nat × Ext)} (hany : P.follows .mixedOrders = true) (ht : typesOk P = true) (hk : kps.all (fun p => fnOk P p.1) = true) (hx : OksE P exts) {f : Nat} (hf : (pairT exts .nil).get f = none) (gs : List (Nat × List C))
    (hgs : gs.all (fun p => and (p.2.all plainC) (decide (p.1 < P.globals.size))) = true) (R : List PW → PV → Prop)
    (h : ∀ ps pv, R ps pv → goC (envOf P exts kps) f (ps.map PW.toW) (st0 gs P.globals.size) fun v s' => ∃ bs, frzV s'.h.get v = some (pv, bs)) : OkE P (f, .fn (ofG R) gs) := by
  refine ext_fn hgs (pure_of_run hany ht hk hx hf gs _ fun ps pv hp => ?_)
  obtain ⟨v, s', ⟨N, hN⟩, bs, hz⟩ := h ps pv (ofG_some hp)
  exact ⟨N, N, v, s', bs, hN N (N + 1) (Nat.le_refl _) (Nat.le_succ _), hz⟩
theorem frzV_agg (look : Look) {l : List D} (h : l.all D.plain = true) : frzV look (.w (.agg (cellsD l))) = some (.w (.agg l), []) := by
  simp only [frzV, frzW, mapO_plain look 2000 l h]
theorem frzV_tup (look : Look) : ∀ {l : List PW}, l.all PW.plain = true → frzV look (.tup (l.map PW.toW)) = some (.tup l, []) := by
  intro l h
  simp only [frzV, frzWs_plain look l h]
theorem law_pure {P : Program} {kps : List (Nat × Nat)} {exts : List (Nat × Ext)} (hany : P.follows .mixedOrders = true) (ht : typesOk P = true) (hk : kps.all (fun p => fnOk P p.1) = true) (hx : OksE P exts) {f : Nat} (hf : (pairT exts .nil).get f = none) (gs : List (Nat × List C)) (R : List PW → PV → Prop)
    (h : ∀ ps pv, R ps pv → goC (envOf P exts kps) f (ps.map PW.toW) (st0 gs P.globals.size) fun v s' => ∃ bs, frzV s'.h.get v = some (pv, bs)) : PureOk P f gs (ofG R) :=
  pure_of_run hany ht hk hx hf gs _ fun ps pv hp => by
    obtain ⟨v, s', ⟨N, hN⟩, bs, hz⟩ := h ps pv (ofG_some hp)
    exact ⟨N, N, v, s', bs, hN N (N + 1) (Nat.le_refl _) (Nat.le_succ _), hz⟩
theorem b_sadd (E : Env) (t : Nat) (ox oy : Operand) (l r : List UInt8) (h : l.length + r.length ≤ 9223372036854775807) : Ev.binOp E .add t ox oy (.c (.str (Str.ofL l))) (.c (.str (Str.ofL r))) = some (vc (.str (Str.ofL (l ++ r)))) := by
  have hl : Nat.ble (Nat.add (Str.ofL l).len (Str.ofL r).len) 9223372036854775807 = true := nble_true h
  simp only [Ev.binOp, strOp, hl, Str.app_ofL, retC_some]
theorem callR_rowE {E : Env} {f b : Nat} {F : List PW → Option PV} {gs : List (Nat × List C)} {x : List D} {c : C} {d : D} {s : St} {pv : PV} (hx : E.ext.get f = some (.fn F gs)) (hg : rowsAre s.h.get gs = true) (hp : x.all D.plain = true) (hc : frzC s.h.get 2000 c = some (d, [b]))
    (hF : F [.agg x, .c d] = some pv) : ∃ s2, CallR E f [.agg (cellsD x), .c c] s pv.toV s2 ∧ s2.nx = s.nx ∧ ∀ q, q ≠ b → s2.h.get q = s.h.get q := by
  have hz : frzWs s.h.get [.agg (cellsD x), .c c] = some ([.agg x, .c d], [] ++ ([b] ++ [])) := by
    have h1 : frzW s.h.get (.agg (cellsD x)) = some (.agg x, []) := by unfold frzW; simp only []; rw [mapO_plain s.h.get 2000 x hp]
    have h2 : frzW s.h.get (.c c) = some (.c d, [b]) := by unfold frzW; simp only []; rw [hc]
    simp only [frzWs, h1, h2]
  have key : extF (.fn F gs) [.agg (cellsD x), .c c] s = match pv.scal with | true => .ok pv.toV s | false => .ok pv.toV (markS s [b]) := by
    show (match rowsAre s.h.get gs with | true => extFn F [.agg (cellsD x), .c c] s | false => .no) = _
    rw [hg]
    simp only [extFn, hz, hF]
    rfl
  cases hs : pv.scal with
  | true => exact ⟨s, callR_ext hx (by rw [key, hs]), rfl, fun q _ => rfl⟩
  | false => exact ⟨markS s [b], callR_ext hx (by rw [key, hs]), rfl, fun q hq => mark_ne hq⟩
def dtB (E : Env) (ks : Nat) (tl : List Oper) (a : A) (s : St) (bs : List Nat) (k : List Fr) (Q : Ex → A → St → Prop) : Prop := ∃ a' s', tailOps E ks tl a s bs = .ok a' s' ∧ go E ks k a'.flush s' Q
theorem dt_B {E : Env} {ks : Nat} {tl : List Oper} {a : A} {s : St} {k : List Fr} {Q : Ex → A → St → Prop} : dt E ks tl a s k Q = dtB E ks tl a s [] k Q := rfl
theorem dtB_nil {E : Env} {ks : Nat} {a : A} {s : St} {bs : List Nat} {k : List Fr} {Q : Ex → A → St → Prop} : dtB E ks [] a s bs k Q = go E ks k a.flush s Q := by
  unfold dtB
  simp only [tailOps, AS.ok.injEq]
  exact propext ⟨fun ⟨a', s', ⟨h1, h2⟩, h⟩ => by subst h1 h2; exact h, fun h => ⟨a, s, And.intro rfl rfl, h⟩⟩
theorem dtB_assign {E : Env} {ks : Nat} {tl : List Oper} {a : A} {s : St} {bs : List Nat} {k : List Fr} {Q : Ex → A → St → Prop} (dst : Option Nat) (ty : TypeId) (pos : String) (af : Array Edge) (x : Operand) :
    dtB E ks (⟨dst, .assign x, ty, pos, af, none⟩ :: tl) a s bs k Q = dtB E ks tl (putA ks a dst (opnd a x)) s bs k Q := rfl
theorem dtB_storeL {E : Env} {ks : Nat} {tl : List Oper} {a : A} {s s' : St} {bs : List Nat} {k : List Fr} {Q : Ex → A → St → Prop} {dst : Option Nat} {ty : TypeId} {pos : String} {af : Array Edge} {t : TypeId} {x v : Operand} {b o : Nat} {l : List C} {w : W}
    (hr : LRow s b l) (hb : natIn b bs = false) (hp : opP a x = some (b, o)) (hv : opW a v = some w) (hs : store E t s b o w = some s') (h : dtB E ks tl (putA ks a dst .un) s' (b :: bs) k Q) :
    dtB E ks (⟨dst, .store t x v, ty, pos, af, none⟩ :: tl) a s bs k Q := by
  obtain ⟨q, h1, _⟩ := hr.at_
  obtain ⟨a', s2, h2, h3⟩ := h
  refine ⟨a', s2, ?_, h3⟩
  have : tailStore E a t x v s bs = some (s', b :: bs) := by
    unfold tailStore
    rw [hp]
    simp only [hb, rowOf_row h1, show Nat.ble 0 o = true from nble_true (Nat.zero_le _), hv, hs]
  simp only [tailOps, tailOp, isPure, this]
  exact h2
theorem goS_keep {E : Env} {ks : Nat} {ops l : List Oper} {a : A} {k : List Fr} {Q : Ex → A → St → Prop} {h : T Blk} (n : Nat) (H : ∀ s2 : St, s2.h = h → n ≤ s2.nx → goS E ks ops l a s2 k Q) : goS E ks ops l a ⟨h, n⟩ k Q := H _ rfl (Nat.le_refl _)
theorem rows_below {P : Program} {gs : List (Nat × List C)} (h : gs.all (fun p => and (p.2.all plainC) (decide (p.1 < P.globals.size))) = true) : ∀ p ∈ gs, p.1 < P.globals.size := fun p hp => by
  have := List.all_eq_true.1 h p hp
  rw [Bool.and_eq_true, decide_eq_true_eq] at this
  exact this.2
theorem known_call {E : Env} {f : Nat} {c : C} {gs : List (Nat × List C)} (h : E.ext.get f = some (.const c gs)) {s : St} (hg : rowsAre s.h.get gs = true) : CallR E f ([] ++ capW []) s (vc c) s :=
  callR_ext h (by show (match rowsAre s.h.get gs with | true => VS.ok (vc c) s | false => .no) = _; rw [hg])
end Ev
