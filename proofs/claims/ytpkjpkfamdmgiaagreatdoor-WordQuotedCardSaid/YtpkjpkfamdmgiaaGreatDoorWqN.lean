import Derived.Test.YtpkjpkfamdmgiaaGreatDoorWqL
import Derived.Test.YtpkjpkfamdmgiaaGreatDoorEwL
namespace Ws
open Go Go.Proofs Ev Wq
set_option linter.unusedVariables false
set_option linter.unusedSimpArgs false
set_option linter.unnecessarySimpa false
set_option maxRecDepth 100000
def SlW (s : St) (B : Nat) (c : C) (cs : List C) : Prop :=
  (c = .nils ∧ cs = []) ∨ ∃ b q sh anc, c = .sl b 0 cs.length none 1 ∧ s.h.get b = some (.row ⟨q, cs.length, true, sh, anc⟩) ∧ (∀ m, m < cs.length → q.get m = cs[m]?) ∧ 1 ≤ cs.length ∧ B ≤ b ∧ b < s.nx ∧ ∀ x ∈ anc, B ≤ x
theorem SlW.nil (s : St) (B : Nat) : SlW s B .nils [] := .inl ⟨rfl, rfl⟩
theorem SlW.keep {s s' : St} {B : Nat} {c : C} {cs : List C} (h : SlW s B c cs) (hn : s.nx ≤ s'.nx) (hk : ∀ x, x < s.nx → s'.h.get x = s.h.get x) : SlW s' B c cs := by
  refine h.imp id ?_
  rintro ⟨b, q, sh, anc, h1, h2, h3, h4, h5, h6, h7⟩
  exact ⟨b, q, sh, anc, h1, by rw [hk b h6]; exact h2, h3, h4, h5, by omega, h7⟩
theorem SlW.len (X : T Ext) (look : Look) {s : St} {B : Nat} {c : C} {cs : List C} (h : SlW s B c cs) : len (En X) 25 look c = some cs.length := by
  rcases h with ⟨rfl, rfl⟩ | ⟨b, q, sh, anc, rfl, _⟩
  · exact len_nils (us25 X)
  · exact len_sl (us25 X) _ _ _ _ _
theorem app_W {E : Env} {t : Nat} {j : TI} {s : St} {B : Nat} {c y x : C} {cs : List C} (hj : elemTI E t = some j) (hz : j.size = 1) (hB : B ≤ s.nx) (h : SlW s B c cs) (hn : newCells s.h.get 1 y = some (1, [x])) (hb : (cs.length + 1) * j.bytes ≤ maxBytes) :
    ∃ c' s', append E t c y s = .ok c' s' ∧ SlW s' B c' (cs ++ [x]) ∧ s'.nx = s.nx + 1 ∧ ∀ z, z < B → s'.h.get z = s.h.get z := by
  unfold append
  rw [hj]
  simp only [hz, hn]
  rcases h with ⟨rfl, rfl⟩ | ⟨b, q, sh, anc, rfl, h2, h3, h4, h5, h6, h7⟩
  · refine ⟨.sl s.nx 0 1 none 1, s.new (.row (mkRow [x])), ?_, .inr ⟨s.nx, T.ofL [x], 0, [], rfl, ?_, fun m hm => T.get_ofL _ _, by simp, hB, by rw [St.new_nx]; omega, fun x hx => by cases hx⟩, St.new_nx _ _, fun z hz => new_old s _ (by omega)⟩
    · unfold appNz
      simp only []
      rw [show Nat.ble (Nat.mul 1 j.bytes) maxBytes = true from nble_true (by simpa using hb), hz]
    · rw [row_newC, mkRow_eq]; rfl
  · have hrow : rowOf s.h.get b = some ⟨q, cs.length, true, sh, anc⟩ := rowOf_row h2
    have hget : q.getL cs.length 0 = some cs := getL_all h3
    have happ : appNz j 1 [x] (.sl b 0 cs.length none 1) s = .ok (.sl s.nx 0 (cs.length + 1) none 1)
        (St.new ⟨s.h.set b (.row ⟨q, cs.length, false, sh, anc⟩), s.nx⟩ (.row { mkRow (cs ++ [x]) with sh := cs.length * 1, anc := b :: anc })) := by
      unfold appNz appSl
      simp only []
      rw [show (and (Nat.beq 1 j.size) (Nat.ble (Nat.mul (Nat.add cs.length 1) j.bytes) maxBytes)) = true from by
        rw [hz, show Nat.beq 1 1 = true from rfl, show Nat.ble (Nat.mul (Nat.add cs.length 1) j.bytes) maxBytes = true from nble_true hb]; rfl]
      simp only []
      unfold appOpen
      rw [hrow]
      simp only []
      unfold appOpenR
      simp only []
      rw [show Nat.ble (Nat.add 0 (Nat.mul (Nat.add cs.length 1) 1)) cs.length = false from nble_false (by show ¬ 0 + (cs.length + 1) * 1 ≤ _; omega)]
      simp only []
      rw [show (and true (Nat.beq (Nat.add 0 (Nat.mul cs.length 1)) cs.length)) = true from by
        show (true && Nat.beq (0 + cs.length * 1) cs.length) = true
        rw [Nat.zero_add, Nat.mul_one, Bool.true_and]; exact Nat.beq_refl _]
      simp only []
      have : q.getL (Nat.mul cs.length 1) 0 = some cs := by
        show q.getL (cs.length * 1) 0 = _
        rw [Nat.mul_one]; exact hget
      rw [this]
      rfl
    refine ⟨_, _, happ, .inr ⟨s.nx, T.ofL (cs ++ [x]), cs.length * 1, b :: anc, by rw [List.length_append]; rfl, ?_, fun m hm => T.get_ofL _ _, by rw [List.length_append]; omega, hB, by rw [St.new_nx]; exact Nat.lt_succ_self _, fun z hz => ?_⟩, by rw [St.new_nx], fun z hz => ?_⟩
    · rw [St.new_h]
      show (if s.nx = s.nx then _ else _) = _
      rw [if_pos rfl, mkRow_eq]
    · rcases List.mem_cons.1 hz with rfl | hz
      · exact h5
      · exact h7 z hz
    · rw [St.new_h]
      show (if z = s.nx then _ else (s.h.set b _).get z) = _
      rw [if_neg (by omega), T.get_set, if_neg (by omega)]
theorem SlW.write {s : St} {B : Nat} {c : C} {cs : List C} (h : SlW s B c cs) {i : Nat} (hi : i < cs.length) (x : C) : ∃ b, c = .sl b 0 cs.length none 1 ∧ ∃ s', writeL s b i [x] = some s' ∧ SlW s' B c (cs.set i x) ∧ s'.nx = s.nx ∧ ∀ z, z < B → s'.h.get z = s.h.get z := by
  rcases h with ⟨rfl, rfl⟩ | ⟨b, q, sh, anc, rfl, h2, h3, h4, h5, h6, h7⟩
  · simp at hi
  · refine ⟨b, rfl, ?_⟩
    have hq : ∀ m, m < (cs.set i x).length → (q.setL i [x]).get m = (cs.set i x)[m]? := fun m hm => by
      rw [List.length_set] at hm
      rw [T.get_setL]
      by_cases hmi : i = m
      · subst hmi
        rw [if_pos ⟨Nat.le_refl _, by simp⟩, List.getElem?_set_self hi, Nat.sub_self]; rfl
      · rw [if_neg (fun h => by have h2 : m < i + 1 := h.2; omega), List.getElem?_set_ne hmi, h3 m hm]
    rw [writeL_eq, h2]
    simp only []
    rw [if_pos (by exact ⟨by trivial, by show i + 1 ≤ cs.length; omega⟩)]
    by_cases hsh : i < sh
    · rw [if_pos hsh]
      refine ⟨_, rfl, .inr ⟨b, q.setL i [x], 0, [b], by rw [List.length_set], ?_, hq, by rw [List.length_set]; exact h4, h5, h6, fun z hz => by simp at hz; subst hz; exact h5⟩, rfl, fun z hz => ?_⟩
      · rw [List.length_set]; exact T.get_set_same _ _ _
      · show ((kill s.h anc).set b _).get z = _
        rw [T.get_set, if_neg (by omega), kill_get, if_neg (fun hm => by have := h7 z hm; omega)]
    · rw [if_neg hsh]
      refine ⟨_, rfl, .inr ⟨b, q.setL i [x], sh, anc, by rw [List.length_set], ?_, hq, by rw [List.length_set]; exact h4, h5, h6, h7⟩, rfl, fun z hz => ?_⟩
      · rw [List.length_set]; exact T.get_set_same _ _ _
      · show (s.h.set b _).get z = _
        rw [T.get_set, if_neg (by omega)]
theorem SlW.read {s : St} {B : Nat} {c : C} {cs : List C} (h : SlW s B c cs) {i : Nat} {x : C} (hx : cs[i]? = some x) : ∃ b, c = .sl b 0 cs.length none 1 ∧ ldHC s.h.get b i = some (.c x) := by
  have hi := (List.getElem?_eq_some_iff.1 hx).1
  rcases h with ⟨rfl, rfl⟩ | ⟨b, q, sh, anc, rfl, h2, h3, h4, h5, h6, h7⟩
  · simp at hi
  · refine ⟨b, rfl, ?_⟩
    refine ldHC_row (l := cs) (fun o n hn => ?_) hx
    rw [readL_row h2, readR_eq _ _ _ _ _ _ _ hn]
    have := getL_all h3
    refine T.getL_of (by rw [List.length_take, List.length_drop]; omega) fun j hj => ?_
    rw [h3 (o + j) (by omega), List.getElem?_take, if_pos hj, List.getElem?_drop]
theorem cells_ts : ∀ ds : List Str, cellsD (tsL ds).flatten = ds.map C.str
  | [] => rfl
  | d :: ds => by
    show C.str d :: cellsD (tsL ds).flatten = _
    rw [cells_ts ds]; rfl
theorem SlW.frz {s : St} {B : Nat} {c : C} {ds : List Str} (h : SlW s B c (ds.map C.str)) : ∃ bs, frzC s.h.get 2000 c = some (slD 1 (tsL ds), bs) ∧ ∀ x ∈ bs, B ≤ x := by
  have hc := cells_ts ds
  rcases h with ⟨rfl, h⟩ | ⟨b, q, sh, anc, rfl, h2, h3, h4, h5, h6, h7⟩
  · have : ds = [] := by simpa using h
    subst this
    exact ⟨[], rfl, fun x hx => by cases hx⟩
  · have hra : RowAt s b (cellsD (tsL ds).flatten) := by rw [hc]; exact ⟨q, sh, anc, h2, h3⟩
    have hl : (tsL ds).length = (ds.map C.str).length := by unfold tsL; simp
    have := frz_sl (cap := none) (tsL_one ds) hra (tsL_plain ds) (Nat.le_refl _) rfl 1999
    rw [hl] at this
    refine ⟨[b], ?_, fun x hx => by simp at hx; subst hx; exact h5⟩
    rw [this]
    cases ds with
    | nil => simp at h4
    | cons d ds => rfl
end Ws
