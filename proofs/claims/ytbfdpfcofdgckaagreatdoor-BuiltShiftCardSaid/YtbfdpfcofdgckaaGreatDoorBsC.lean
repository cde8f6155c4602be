import Derived.Test.YtbfdpfcofdgckaaGreatDoorBsB
import Derived.Test.YtbfdpfcofdgckaaGreatDoorEwG
import Derived.Test.YtbfdpfcofdgckaaGreatDoorEwG
namespace Bs
open Go Go.Proofs Ev
set_option linter.unusedVariables false
set_option linter.unusedSimpArgs false
set_option maxRecDepth 100000
theorem frz_sl {s : St} {b z : Nat} {cap : Option Nat} {ls : List (List D)} (hl : ∀ x ∈ ls, x.length = z) (h : RowAt s b (cellsD ls.flatten)) (hp : ls.flatten.all D.plain = true) (hz : 1 ≤ z) (hc : capOk cap ls.length = true) (n : Nat) :
    frzC s.h.get (n + 1) (.sl b 0 ls.length cap z) = some (.sl z ls, [b]) := by
  obtain ⟨q, sh, anc, hrow, hq⟩ := h
  have hfr : frzRow s.h.get b = some ⟨q, (cellsD ls.flatten).length, true, sh, anc⟩ := by unfold frzRow; rw [hrow]
  have hlen := cells_len z ls hl
  simp only [frzC, hfr]
  rw [show (and (capOk cap ls.length) (Nat.ble 1 z)) = true by rw [hc, nble_true hz]; rfl]
  simp only []
  have hr : readR ⟨q, (cellsD ls.flatten).length, true, sh, anc⟩ 0 (Nat.mul ls.length z) = some (cellsD ls.flatten) := by
    rw [readR_eq _ _ _ _ _ _ _ (by rw [hlen]; simp)]
    show q.getL (ls.length * z) 0 = _
    rw [← hlen]
    exact getL_all hq
  rw [hr]
  simp only []
  rw [mapO_plain s.h.get n ls.flatten hp]
  simp only [frzSl, flatten_chunk z ls hl]
theorem row_newC (s : St) (l : List C) : (s.new (.row (mkRow l))).h.get s.nx = some (.row (mkRow l)) := by
  rw [St.new_h]
  show (if s.nx = s.nx then _ else _) = _
  rw [if_pos rfl]
theorem readNew (s : St) (l : List C) : readL (s.new (.row (mkRow l))).h.get s.nx 0 l.length = some l := by
  rw [readL_row (row_newC s l), mkRow_eq, readR_ofL, if_pos (by omega)]
  simp
/-- 'append(T literal, l...)' -/
theorem app_lit {E : Env} {t z : Nat} {j : TI} (s : St) {l0 l : List (List D)} {d : D} (hj : elemTI E t = some j) (hs : j.size = z) (h0 : ∀ x ∈ l0, x.length = z) (h1 : 1 ≤ l0.length) (hl : ∀ x ∈ l, x.length = z) (hd : IsEls z d) (he : els d = l) (hz : 1 ≤ z)
    (p0 : l0.flatten.all D.plain = true) (p1 : l.flatten.all D.plain = true) (hb : (l0.length + l.length) * j.bytes ≤ maxBytes) :
    ∃ c s' b, append E t (.sl s.nx 0 l0.length (some l0.length) z) d.toC (s.new (.row (mkRow (cellsD l0.flatten)))) = .ok c s' ∧ (∀ n, frzC s'.h.get (n + 1) c = some (.sl z (l0 ++ l), [b])) ∧ s.nx ≤ b ∧ b < s'.nx ∧ s.nx ≤ s'.nx ∧ ∀ x, x < s.nx → s'.h.get x = s.h.get x := by
  subst hs he
  have hnx : (s.new (.row (mkRow (cellsD l0.flatten)))).nx = s.nx + 1 := St.new_nx _ _
  have hn : newCells (s.new (.row (mkRow (cellsD l0.flatten)))).h.get j.size d.toC = some ((els d).length, cellsD (els d).flatten) := newCells_els hd
  by_cases hem : els d = []
  · refine ⟨.sl s.nx 0 l0.length (some l0.length) j.size, s.new (.row (mkRow (cellsD l0.flatten))), s.nx, ?_, fun n => ?_, Nat.le_refl _, by omega, by omega, fun x hx => new_old s _ hx⟩
    · unfold append
      rw [hj]
      simp only [hn, hem]
      rfl
    · rw [hem, List.append_nil]
      exact frz_sl h0 (RowAt.of (LRow.new s _)) p0 hz rfl n
  · obtain ⟨m, hm⟩ : ∃ m, (els d).length = m + 1 := ⟨(els d).length - 1, by have := List.length_pos_iff.2 hem; omega⟩
    have hr := readNew s (cellsD l0.flatten)
    have hlen := cells_len j.size l0 h0
    have hro : ∀ s1 : St, s1 = s.new (.row (mkRow (cellsD l0.flatten))) → append E t (.sl s.nx 0 l0.length (some l0.length) j.size) d.toC s1 = .ok (.sl s1.nx 0 (l0.length + (m + 1)) none j.size) (s1.new (.row (mkRow (cellsD l0.flatten ++ cellsD (els d).flatten)))) := by
      rintro s1 hs1
      rw [← hs1] at hr hn
      unfold append
      rw [hj]
      simp only [hn, hm]
      show appNz j (m + 1) (cellsD (els d).flatten) (.sl s.nx 0 l0.length (some l0.length) j.size) s1 = _
      unfold appNz appSl
      simp only []
      rw [show (and (Nat.beq j.size j.size) (Nat.ble (Nat.mul (Nat.add l0.length (m + 1)) j.bytes) maxBytes)) = true by
        rw [show Nat.beq j.size j.size = true from Nat.beq_refl _, nble_true (by show (l0.length + (m + 1)) * j.bytes ≤ maxBytes; rw [← hm]; exact hb)]; rfl]
      simp only []
      rw [show Nat.ble (Nat.add l0.length (m + 1)) l0.length = false from nble_false (by show ¬ (l0.length + (m + 1) ≤ l0.length); omega)]
      simp only []
      unfold appGrow
      rw [show readL s1.h.get s.nx 0 (Nat.mul l0.length j.size) = some (cellsD l0.flatten) by
        rw [show Nat.mul l0.length j.size = (cellsD l0.flatten).length from hlen.symm]; exact hr]
      rfl
    refine ⟨_, _, (s.new (.row (mkRow (cellsD l0.flatten)))).nx, hro _ rfl, fun n => ?_, ?_, ?_, ?_, fun x hx => ?_⟩
    · generalize hs1 : s.new (.row (mkRow (cellsD l0.flatten))) = s1
      have hcat : cellsD l0.flatten ++ cellsD (els d).flatten = cellsD (l0 ++ els d).flatten := by rw [List.flatten_append]; unfold cellsD; rw [List.map_append]
      rw [hcat, show l0.length + (m + 1) = (l0 ++ els d).length by rw [List.length_append, hm]]
      exact frz_sl (fun x hx => (List.mem_append.1 hx).elim (h0 x) (hl x)) (RowAt.of (LRow.new s1 _)) (by rw [List.flatten_append, List.all_append, p0, p1]; rfl) hz (by show Nat.ble 1 _ = true; exact nble_true (by rw [List.length_append]; omega)) n
    · rw [hnx]; omega
    · rw [St.new_nx _ (.row (mkRow (cellsD l0.flatten ++ cellsD (els d).flatten)))]; omega
    · rw [St.new_nx _ (.row (mkRow (cellsD l0.flatten ++ cellsD (els d).flatten))), hnx]; omega
    · rw [new_old _ _ (by omega), new_old _ _ hx]
theorem tl_plain (l : List Str) : (tl l).flatten.all D.plain = true := by
  rw [List.all_eq_true]
  intro d hd
  obtain ⟨x, hx, hdx⟩ := List.mem_flatten.1 hd
  obtain ⟨l, _, rfl⟩ := List.mem_map.1 hx
  simp at hdx; subst hdx; rfl
theorem tl_one (l : List Str) : ∀ x ∈ tl l, x.length = 1 := by
  intro x hx
  obtain ⟨l, _, rfl⟩ := List.mem_map.1 hx; rfl
theorem kill_ne {h : T Blk} {b x : Nat} (hx : x ≠ b) : (kill h [b]).get x = h.get x := by
  show (h.set b .dead).get x = _
  rw [T.get_set, if_neg hx]
/-- a call whose last argument lies in a row of its own -/
theorem callR_row {E : Env} {f b : Nat} {F : List PW → Option PV} {gs : List (Nat × List C)} {x : List D} {c : C} {d : D} {s : St} {pv : PV} (hx : E.ext.get f = some (.fn F gs)) (hg : rowsAre s.h.get gs = true) (hp : x.all D.plain = true) (hc : frzC s.h.get 64 c = some (d, [b]))
    (hF : F [.agg x, .c d] = some pv) (hs : pv.scal = false) : CallR E f [.agg (cellsD x), .c c] s pv.toV (sealS s [b]) := by
  refine callR_ext hx ?_
  show (match rowsAre s.h.get gs with | true => extFn F [.agg (cellsD x), .c c] s | false => .no) = _
  rw [hg]
  have hz : frzWs s.h.get [.agg (cellsD x), .c c] = some ([.agg x, .c d], [] ++ ([b] ++ [])) := by
    have h1 : frzW s.h.get (.agg (cellsD x)) = some (.agg x, []) := by unfold frzW; simp only []; rw [mapO_plain s.h.get 64 x hp]
    have h2 : frzW s.h.get (.c c) = some (.c d, [b]) := by unfold frzW; simp only []; rw [hc]
    simp only [frzWs, h1, h2]
  simp only [extFn, hz, hF, hs]
  rfl
theorem rows_congr {l1 l2 : Look} : ∀ {gs : List (Nat × List C)}, (∀ p ∈ gs, l2 p.1 = l1 p.1) → rowsAre l1 gs = true → rowsAre l2 gs = true := by
  intro gs
  induction gs with
  | nil => intro _ h; exact h
  | cons p gs ih =>
    intro h1 h2
    have hp : rowIs l2 p.1 p.2 = rowIs l1 p.1 p.2 := by unfold rowIs rowOf; rw [h1 p (by simp)]
    unfold rowsAre at h2 ⊢
    simp only [hp]
    cases hr : rowIs l1 p.1 p.2 with
    | false => rw [hr] at h2; cases h2
    | true => rw [hr] at h2; exact ih (fun q hq => h1 q (by simp [hq])) h2
theorem nBuildSlice_eq (E : Env) (a : A) (t n : Nat) (ps : List (Nat × Operand)) (id : Nat) : nBuildSlice E a t n ps id = match partsOf a ps with
  | some l => buildSlice E t n l id
  | none => none := rfl
theorem partsOf_nil (a : A) : partsOf a [] = some [] := rfl
theorem partsOf_cons (a : A) (i : Nat) (x : Operand) (l : List (Nat × Operand)) : partsOf a ((i, x) :: l) = match opW a x with
  | none => none
  | some w => match partsOf a l with
    | none => none
    | some r => some ((i, w) :: r) := rfl
theorem putL_all {l r : List C} (h : r.length = l.length) : putL l 0 r = r := by unfold putL; simp [h]
theorem row_written (s : St) (zs r : List C) (h : r.length = zs.length) : ∃ s', writeL (s.new (.row (mkRow zs))) s.nx 0 r = some s' ∧ LRow s' s.nx r ∧ s'.nx = s.nx + 1 ∧ ∀ x, x < s.nx → s'.h.get x = s.h.get x := by
  obtain ⟨s', h1, h2, h3, h4⟩ := (LRow.new s zs).write (o := 0) (r := r) (by omega)
  rw [putL_all h] at h2
  exact ⟨s', h1, h2, by rw [h3, St.new_nx], fun x hx => by rw [h4 x (by omega), new_old s _ hx]⟩
theorem st36 (X : T Ext) (s : St) (b o : Nat) (w : W) : store (En X) 36 s b o w = if w.cells.length = 21 then writeL s b o w.cells else none := store_of (tab36 X) tis36 s b o w
theorem bu36 (X : T Ext) (a : A) : rBuild (En X) a 36 [] = some (.w (.agg (cellsD (stD .nils 0)))) := by kernel_rfl
theorem lit_set : Str.of { data := #[115, 101, 116] } = sSet := by kernel_rfl
theorem lit_dd : Str.of { data := #[45, 45] } = sDD := by kernel_rfl
theorem lit_shift : Str.of { data := #[115, 104, 105, 102, 116] } = sShift := by kernel_rfl
theorem ldA21 {x : List D} (h : x.length = 21) {s : St} {b : Nat} (hr : LRow s b (cellsD x)) : ldHA 21 s.h.get b 0 = some (.agg (cellsD x)) := by
  have := hr.ldA
  rwa [show (cellsD x).length = 21 by show (x.map D.toC).length = 21; rw [List.length_map, h]] at this
end Bs
