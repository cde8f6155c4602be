import Derived.Test.YtpkjpkfamdmgiaaGreatDoorWsF
import Derived.Test.YtpkjpkfamdmgiaaGreatDoorWqA
import Derived.Test.YtpkjpkfamdmgiaaGreatDoorWqM
import Derived.Test.YtpkjpkfamdmgiaaGreatDoorEwL
import Derived.Test.YtpkjpkfamdmgiaaGreatDoorEwJ
namespace Ws
open Go Go.Proofs Ev Wq
set_option linter.unusedVariables false
set_option linter.unusedSimpArgs false
def rw' (c : C) (x : Nat) : Prop := ∃ o n cap z, c = .sl x o n cap z
theorem rw_nils (x : Nat) : ¬ rw' .nils x := by rintro ⟨_, _, _, _, h⟩; cases h
def SlP (s : St) (c : C) (cs : List C) : Prop :=
  (c = .nils ∧ cs = []) ∨ ∃ b sh anc, c = .sl b 0 cs.length none 1 ∧ s.h.get b = some (.row ⟨T.ofL cs, cs.length, true, sh, anc⟩) ∧ 1 ≤ cs.length ∧ b < s.nx
theorem SlP.nil (s : St) : SlP s .nils [] := .inl ⟨rfl, rfl⟩
theorem SlP.keep {s s' : St} {c : C} {cs : List C} (h : SlP s c cs) (hn : s.nx ≤ s'.nx) (hk : ∀ x, rw' c x → s'.h.get x = s.h.get x) : SlP s' c cs := by
  refine h.imp id ?_
  rintro ⟨b, sh, anc, rfl, h2, h3, h4⟩
  exact ⟨b, sh, anc, rfl, by rw [hk b ⟨_, _, _, _, rfl⟩]; exact h2, h3, by omega⟩
theorem SlP.lt {s : St} {c : C} {cs : List C} (h : SlP s c cs) {x : Nat} (hx : rw' c x) : x < s.nx := by
  obtain ⟨o, n, cap, z, rfl⟩ := hx
  rcases h with ⟨h, _⟩ | ⟨b, sh, anc, h, _, _, h4⟩
  · cases h
  · cases h; exact h4
theorem SlAt_keep {s s' : St} {c : C} {z : Nat} {els : List (List D)} (h : SlAt s c z els) (hn : s.nx ≤ s'.nx) (hk : ∀ x, rw' c x → s'.h.get x = s.h.get x) : SlAt s' c z els := by
  refine ⟨h.1, h.2.imp id ?_⟩
  rintro ⟨b, sh, anc, rfl, h2, h3, h4⟩
  exact ⟨b, sh, anc, rfl, by rw [hk b ⟨_, _, _, _, rfl⟩]; exact h2, h3, by omega⟩
theorem SlAt_lt {s : St} {c : C} {z : Nat} {els : List (List D)} (h : SlAt s c z els) {x : Nat} (hx : rw' c x) : x < s.nx := by
  obtain ⟨o, n, cap, z, rfl⟩ := hx
  rcases h.2 with ⟨h, _⟩ | ⟨b, sh, anc, h, _, _, h4⟩
  · cases h
  · cases h; exact h4
theorem app_ptr {E : Env} {t : Nat} {j : TI} {s : St} {c y x : C} {cs : List C} (hj : elemTI E t = some j) (hz : j.size = 1) (h : SlP s c cs) (hn : newCells s.h.get 1 y = some (1, [x])) (hb : (cs.length + 1) * j.bytes ≤ maxBytes) :
    ∃ c' s', append E t c y s = .ok c' s' ∧ SlP s' c' (cs ++ [x]) ∧ Keeps s s' c ∧ s'.nx = s.nx + 1 ∧ ∀ q, rw' c' q → q = s.nx := by
  unfold append
  rw [hj]
  simp only [hz, hn]
  rcases h with ⟨rfl, rfl⟩ | ⟨b, sh, anc, rfl, h2, h3, h4⟩
  · refine ⟨.sl s.nx 0 1 none 1, s.new (.row (mkRow [x])), ?_, .inr ⟨s.nx, 0, [], rfl, ?_, by simp, by rw [St.new_nx]; omega⟩, ⟨by rw [St.new_nx]; omega, fun q hq _ => new_old s _ hq⟩, St.new_nx _ _, ?_⟩
    · unfold appNz
      simp only []
      rw [show Nat.ble (Nat.mul 1 j.bytes) maxBytes = true from nble_true (by simpa using hb), hz]
    · rw [row_newC, mkRow_eq]; rfl
    · rintro q ⟨_, _, _, _, e⟩; cases e; rfl
  · have hrow : rowOf s.h.get b = some ⟨T.ofL cs, cs.length, true, sh, anc⟩ := rowOf_row h2
    have happ : appNz j 1 [x] (.sl b 0 cs.length none 1) s = .ok (.sl s.nx 0 (cs.length + 1) none 1)
        (St.new ⟨s.h.set b (.row ⟨T.ofL cs, cs.length, false, sh, anc⟩), s.nx⟩ (.row { mkRow (cs ++ [x]) with sh := cs.length * 1, anc := b :: anc })) := by
      unfold appNz appSl
      simp only []
      rw [show (and (Nat.beq 1 j.size) (Nat.ble (Nat.mul (Nat.add cs.length 1) j.bytes) maxBytes)) = true from by
        rw [hz, show Nat.beq 1 1 = true from rfl, show Nat.ble (Nat.mul (Nat.add cs.length 1) j.bytes) maxBytes = true from nble_true hb]; rfl]
      simp only []
      unfold appOpen
      rw [hrow]
      simp only []
      unfold appOpenR
      simp only []
      rw [show Nat.ble (Nat.add 0 (Nat.mul (Nat.add cs.length 1) 1)) cs.length = false from nble_false (by show ¬ 0 + (cs.length + 1) * 1 ≤ _; omega)]
      simp only []
      rw [show (and true (Nat.beq (Nat.add 0 (Nat.mul cs.length 1)) cs.length)) = true from by
        show (true && Nat.beq (0 + cs.length * 1) cs.length) = true
        rw [Nat.zero_add, Nat.mul_one, Bool.true_and]; exact Nat.beq_refl _]
      simp only []
      have : (T.ofL cs).getL (Nat.mul cs.length 1) 0 = some cs := by
        show (T.ofL cs).getL (cs.length * 1) 0 = _
        rw [Nat.mul_one]; exact T.getL_ofL _
      rw [this]
      rfl
    refine ⟨_, _, happ, .inr ⟨s.nx, cs.length * 1, b :: anc, by rw [List.length_append]; rfl, ?_, by rw [List.length_append]; omega, by rw [St.new_nx]; exact Nat.lt_succ_self _⟩, ⟨by rw [St.new_nx]; exact Nat.le_succ _, fun q hq hne => ?_⟩, by rw [St.new_nx], ?_⟩
    · rw [St.new_h]
      show (if s.nx = s.nx then _ else _) = _
      rw [if_pos rfl, mkRow_eq]
    · rw [St.new_h]
      show (if q = s.nx then _ else (s.h.set b _).get q) = _
      rw [if_neg (by omega), T.get_set, if_neg (hne b _ _ _ _ rfl)]
    · rintro q ⟨_, _, _, _, e⟩; cases e; rfl
theorem SlAt_frzN {s : St} {c : C} {z : Nat} {els : List (List D)} (h : SlAt s c z els) (hp : els.flatten.all D.plain = true) (hz : 1 ≤ z) (n : Nat) : ∃ bs, frzC s.h.get (n + 1) c = some (slD z els, bs) ∧ ∀ x ∈ bs, rw' c x := by
  obtain ⟨hl, h⟩ := h
  rcases h with ⟨rfl, rfl⟩ | ⟨b, sh, anc, rfl, h2, h3, _⟩
  · exact ⟨[], rfl, fun x hx => by cases hx⟩
  · refine ⟨b :: [], ?_, fun x hx => by simp at hx; subst hx; exact ⟨_, _, _, _, rfl⟩⟩
    have hrow : frzRow s.h.get b = some ⟨T.ofL (cellsD els.flatten), (cellsD els.flatten).length, true, sh, anc⟩ := by unfold frzRow; rw [h2]
    have hlen := cells_len z els hl
    simp only [frzC, hrow]
    have hc : (and (capOk none els.length) (Nat.ble 1 z)) = true := by
      rw [show capOk none els.length = true from rfl, nble_true hz]; rfl
    rw [hc]
    simp only []
    have hr : readR ⟨T.ofL (cellsD els.flatten), (cellsD els.flatten).length, true, sh, anc⟩ 0 (Nat.mul els.length z) = some (cellsD els.flatten) := by
      rw [readR_eq _ _ _ _ _ _ _ (by rw [hlen]; simp)]
      show (T.ofL (cellsD els.flatten)).getL (els.length * z) 0 = _
      rw [← hlen]
      exact T.getL_ofL _
    rw [hr]
    simp only []
    rw [mapO_plain s.h.get n els.flatten hp]
    simp only [frzSl, flatten_chunk z els hl]
    cases els with
    | nil => simp at h3
    | cons x els => rfl
theorem flat_one (ds : List D) : (ds.map fun d => [d]).flatten = ds := by induction ds with
  | nil => rfl
  | cons d ds ih => simp [ih]
theorem chunk_one : ∀ ds : List D, chunkD 1 ds.length ds = ds.map fun d => [d]
  | [] => rfl
  | d :: ds => by
    have := chunk_one ds
    show (d :: ds).take 1 :: chunkD 1 ds.length ((d :: ds).drop 1) = _
    simp [this]
theorem SlP_frz {s : St} {c : C} {cs : List C} {ds : List D} (h : SlP s c cs) (n : Nat) (hm : ∃ bs, mapO (frzC s.h.get n) cs = some (ds, bs)) : ∃ bs, frzC s.h.get (n + 1) c = some (slD 1 (ds.map fun d => [d]), bs) := by
  obtain ⟨bs, hm⟩ := hm
  rcases h with ⟨rfl, rfl⟩ | ⟨b, sh, anc, rfl, h2, h3, _⟩
  · cases hm; exact ⟨[], rfl⟩
  · refine ⟨b :: bs, ?_⟩
    have hrow : frzRow s.h.get b = some ⟨T.ofL cs, cs.length, true, sh, anc⟩ := by unfold frzRow; rw [h2]
    simp only [frzC, hrow]
    have hc : (and (capOk none cs.length) (Nat.ble 1 1)) = true := rfl
    rw [hc]
    simp only []
    have hr : readR ⟨T.ofL cs, cs.length, true, sh, anc⟩ 0 (Nat.mul cs.length 1) = some cs := by
      rw [readR_eq _ _ _ _ _ _ _ (by show 0 + cs.length * 1 ≤ _; omega)]
      show (T.ofL cs).getL (cs.length * 1) 0 = _
      rw [Nat.mul_one]
      exact T.getL_ofL _
    rw [hr]
    simp only []
    rw [hm]
    have hl : ds.length = cs.length := by
      have : ∀ (cs : List C) (ds : List D) (bs : List Nat), mapO (frzC s.h.get n) cs = some (ds, bs) → ds.length = cs.length := by
        intro cs
        induction cs with
        | nil => intro ds bs h; cases h; rfl
        | cons c cs ih =>
          intro ds bs h
          unfold mapO at h
          split at h
          · cases h
          · split at h
            · cases h
            · rename_i e; cases h
              rw [List.length_cons, List.length_cons, ih _ _ e]
      exact this _ _ _ hm
    simp only [frzSl, ← hl, chunk_one]
    cases ds with
    | nil => rw [← hl] at h3; simp at h3
    | cons d ds => rfl
def chD (cs : List (Nat × Bool)) : D := slD 2 (cs.map elC)
def Mk (S : St) (b : Nat) (P : Nat → Prop) (ls : List (List (Nat × Bool))) (now : List (Nat × Bool)) (bg : Bool) : Prop :=
  ∃ lc nc cs, LRow S b [lc, nc, .bool bg] ∧ b < S.nx ∧ (∀ x, P x → x < S.nx) ∧ ¬ P b ∧ SlP S lc cs ∧ SlAt S nc 2 (now.map elC) ∧ All2 (fun c l => SlAt S c 2 (l.map elC)) cs ls ∧ (∀ x, rw' lc x → x ≠ b ∧ ¬ P x) ∧ (∀ x, rw' nc x → x ≠ b ∧ ¬ P x ∧ ¬ rw' lc x) ∧
    ∀ c ∈ cs, ∀ x, rw' c x → x ≠ b ∧ ¬ P x ∧ ¬ rw' lc x ∧ ¬ rw' nc x
theorem All2_imp {α β : Type} {P Q : α → β → Prop} : ∀ {la : List α} {lb : List β}, All2 P la lb → (∀ a ∈ la, ∀ b, P a b → Q a b) → All2 Q la lb
  | [], _, .nil, _ => .nil
  | a :: l, _, .cons h1 h2, h => .cons (h a (by simp) _ h1) (All2_imp h2 fun a ha => h a (by simp [ha]))
theorem All2_snoc {α β : Type} {P : α → β → Prop} : ∀ {la : List α} {lb : List β} {a : α} {b : β}, All2 P la lb → P a b → All2 P (la ++ [a]) (lb ++ [b])
  | [], _, _, _, .nil, h => .cons h .nil
  | _ :: _, _, _, _, .cons h1 h2, h => .cons h1 (All2_snoc h2 h)
theorem All2_left {α β : Type} {P : α → β → Prop} : ∀ {la : List α} {lb : List β}, All2 P la lb → ∀ a ∈ la, ∃ b, P a b
  | [], _, .nil, a, h => by cases h
  | _ :: _, _, .cons h1 h2, a, h => by
    rcases List.mem_cons.1 h with rfl | h
    · exact ⟨_, h1⟩
    · exact All2_left h2 a h
theorem Mk.keep {S S' : St} {b : Nat} {P P' : Nat → Prop} {ls : List (List (Nat × Bool))} {now : List (Nat × Bool)} {bg : Bool} (h : Mk S b P ls now bg) (hn : S.nx ≤ S'.nx) (hk : ∀ x, x < S.nx → ¬ P x → S'.h.get x = S.h.get x) (h1 : ∀ x, P' x → P x ∨ S.nx ≤ x) (h2 : ∀ x, P' x → x < S'.nx) : Mk S' b P' ls now bg := by
  obtain ⟨lc, nc, cs, g1, g2, g3, g4, g5, g6, g7, g8, g9, g10⟩ := h
  have q : ∀ x, x < S.nx → ¬ P x → ¬ P' x := fun x hx hp hp' => (h1 x hp').elim hp fun h => by omega
  refine ⟨lc, nc, cs, g1.keep (hk b g2 g4), by omega, h2, q b g2 g4, g5.keep hn fun x hx => hk x (g5.lt hx) (g8 x hx).2, SlAt_keep g6 hn fun x hx => hk x (SlAt_lt g6 hx) (g9 x hx).2.1, All2_imp g7 fun c hc l hl => SlAt_keep hl hn fun x hx => hk x (SlAt_lt hl hx) (g10 c hc x hx).2.1,
    fun x hx => ⟨(g8 x hx).1, q x (g5.lt hx) (g8 x hx).2⟩, fun x hx => ⟨(g9 x hx).1, q x (SlAt_lt g6 hx) (g9 x hx).2.1, (g9 x hx).2.2⟩, fun c hc x hx => ?_⟩
  obtain ⟨l, hl⟩ := All2_left g7 c hc
  exact ⟨(g10 c hc x hx).1, q x (SlAt_lt hl hx) (g10 c hc x hx).2.1, (g10 c hc x hx).2.2⟩
theorem Mk.frz {S : St} {b : Nat} {p : Nat → Prop} {ls : List (List (Nat × Bool))} {now : List (Nat × Bool)} {bg : Bool} (h : Mk S b p ls now bg) : ∃ lc, ldHC S.h.get b 0 = some (.c lc) ∧ ∃ bs, frzC S.h.get 2000 lc = some (slD 1 (ls.map fun l => [chD l]), bs) := by
  obtain ⟨lc, nc, cs, h1, h2, h3, h4, h5, h6, h7, h8, h9, h10⟩ := h
  refine ⟨lc, h1.ldC rfl, ?_⟩
  have : ∃ bs, mapO (frzC S.h.get 1999) cs = some (ls.map chD, bs) := by
    clear h5 h10
    induction h7 with
    | nil => exact ⟨[], rfl⟩
    | cons hc _ ih =>
      obtain ⟨b1, e1, _⟩ := SlAt_frzN hc (elC_plain _) (by decide) 1998
      obtain ⟨b2, e2⟩ := ih
      refine ⟨b1 ++ b2, ?_⟩
      unfold mapO
      rw [e1]
      simp only []
      rw [e2]
      rfl
  have := SlP_frz h5 1999 this
  rw [List.map_map] at this
  exact this
end Ws
