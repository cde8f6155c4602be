import Derived.Test.YtpkjpkfamdmgiaaGreatDoorEwB
import Derived.Test.YtpkjpkfamdmgiaaGreatDoorEwA
namespace Wq
open Ev Go
def bat (l : List UInt8) (i : Nat) : Nat := match l[i]? with
  | some c => c.toNat
  | none => 0
def contL (l : List UInt8) (i : Nat) : Bool := match l[i]? with
  | some c => c.toNat / 64 == 2
  | none => false
def decL (l : List UInt8) : Nat × Nat := decM (bat l 0) (bat l 1) (bat l 2) (bat l 3) (contL l 1) (contL l 2) (contL l 3)
theorem at_bat {l : List UInt8} {i : Nat} (_ : i < l.length) (j : Nat) (hj : j + i < l.length) : (Str.ofL l).at (i + j) = bat (l.drop i) j := by
  rw [Str.at_ofL l (i + j) (by omega)]
  unfold bat
  rw [List.getElem?_drop, List.getElem?_eq_getElem (show i + j < l.length by omega)]
theorem cont_contL (l : List UInt8) (i j : Nat) : (Str.ofL l).cont (i + j) = contL (l.drop i) j := by
  unfold Str.cont contL
  show (and (Nat.ble (Nat.succ (i + j)) l.length) (Nat.beq (Nat.div ((Str.ofL l).at (i + j)) 64) 2)) = _
  by_cases h : i + j < l.length
  · rw [Nat.ble_eq_true_of_le (show Nat.succ (i + j) ≤ _ from h), List.getElem?_drop, List.getElem?_eq_getElem h, Str.at_ofL l _ h, Bool.true_and, beq_nat]
    rfl
  · have : Nat.ble (Nat.succ (i + j)) l.length = false := by
      cases e : Nat.ble (Nat.succ (i + j)) l.length with
      | false => rfl
      | true => exact absurd (Nat.le_of_ble_eq_true e) h
    rw [this, List.getElem?_drop, List.getElem?_eq_none (by omega)]; rfl
theorem contL_lt {l : List UInt8} {j : Nat} (h : contL l j = true) : j < l.length := by
  unfold contL at h
  cases e : l[j]? with
  | none => rw [e] at h; cases h
  | some c => exact (List.getElem?_eq_some_iff.1 e).1
theorem decM_cong {b0 b1 b2 b3 c1 c2 c3 : Nat} {k1 k2 k3 : Bool} (h1 : k1 = true → b1 = c1) (h2 : k1 = true → k2 = true → b2 = c2) (h3 : k1 = true → k2 = true → k3 = true → b3 = c3) : decM b0 b1 b2 b3 k1 k2 k3 = decM b0 c1 c2 c3 k1 k2 k3 := by
  cases k1 with
  | false => unfold decM; simp only [Bool.and_false, Bool.false_and, Bool.false_eq_true, if_false]
  | true =>
    rw [h1 rfl]
    cases k2 with
    | false => unfold decM; simp only [Bool.and_false, Bool.false_and, Bool.false_eq_true, if_false]
    | true =>
      rw [h2 rfl rfl]
      cases k3 with
      | false => unfold decM; simp only [Bool.and_false, Bool.false_eq_true, if_false]
      | true => rw [h3 rfl rfl rfl]
theorem decM_k1 (b0 b1 b2 b3 : Nat) (k2 k3 k2' k3' : Bool) : decM b0 b1 b2 b3 false k2 k3 = decM b0 b1 b2 b3 false k2' k3' := by
  unfold decM; simp only [Bool.and_false, Bool.false_and, Bool.false_eq_true, if_false]
theorem decM_k2 (b0 b1 b2 b3 : Nat) (k1 k3 k3' : Bool) : decM b0 b1 b2 b3 k1 false k3 = decM b0 b1 b2 b3 k1 false k3' := by
  unfold decM; simp only [Bool.and_false, Bool.false_and, Bool.false_eq_true, if_false]
theorem dec_L {l : List UInt8} {i : Nat} (h : i < l.length) : dec (Str.ofL l) i = decL (l.drop i) := by
  have e1 : dec (Str.ofL l) i = decN ((Str.ofL l).at i) ((Str.ofL l).at (i + 1)) ((Str.ofL l).at (i + 2)) ((Str.ofL l).at (i + 3)) ((Str.ofL l).cont (i + 1)) ((Str.ofL l).cont (i + 2)) ((Str.ofL l).cont (i + 3)) := rfl
  rw [e1, decN_eq, cont_contL, cont_contL, cont_contL]
  have h0 : (Str.ofL l).at i = bat (l.drop i) 0 := at_bat h 0 (by omega)
  rw [h0]
  unfold decL
  have q : ∀ j, contL (l.drop i) j = true → (Str.ofL l).at (i + j) = bat (l.drop i) j := fun j hj => by
    have := contL_lt hj
    rw [List.length_drop] at this
    exact at_bat h j (by omega)
  exact decM_cong (fun h1 => q 1 h1) (fun _ h2 => q 2 h2) (fun _ _ h3 => q 3 h3)
theorem contL_lo {l : List UInt8} {j : Nat} {c : UInt8} (h : l[j]? = some c) (hc : c.toNat < 128) : contL l j = false := by
  unfold contL
  rw [h]
  show (c.toNat / 64 == 2) = false
  rw [beq_eq_false_iff_ne]
  omega
theorem decL_app {l : List UInt8} {c : UInt8} (r : List UInt8) (hl : l ≠ []) (hc : c.toNat < 128) : decL (l ++ c :: r) = decL l := by
  unfold decL
  match l, hl with
  | [a], _ =>
    rw [contL_lo (show ([a] ++ c :: r)[1]? = some c from rfl) hc]
    exact (decM_k1 _ _ _ _ _ _ false false).trans (decM_cong (fun h => by cases h) (fun h => by cases h) (fun h => by cases h))
  | [a, b], _ =>
    rw [contL_lo (show ([a, b] ++ c :: r)[2]? = some c from rfl) hc]
    exact (decM_k2 _ _ _ _ _ _ false).trans (decM_cong (fun _ => rfl) (fun _ h => by cases h) (fun _ h => by cases h))
  | [a, b, d], _ =>
    rw [contL_lo (show ([a, b, d] ++ c :: r)[3]? = some c from rfl) hc]
    exact decM_cong (fun _ => rfl) (fun _ _ => rfl) (fun _ _ h => by cases h)
  | a :: b :: d :: e :: l, _ => rfl
theorem decL_w (l : List UInt8) (hl : l ≠ []) : 1 ≤ (decL l).2 ∧ (decL l).2 ≤ l.length := by
  have h0 : 1 ≤ l.length := by cases l with | nil => exact absurd rfl hl | cons _ _ => simp
  unfold decL decM
  split
  · exact ⟨Nat.le_refl _, h0⟩
  split
  · rename_i h
    have := contL_lt (Bool.and_eq_true_iff.1 h).2
    split
    · exact ⟨Nat.succ_pos _, this⟩
    · exact ⟨Nat.le_refl _, h0⟩
  split
  · rename_i h
    have := contL_lt (Bool.and_eq_true_iff.1 h).2
    split
    · exact ⟨Nat.succ_pos _, this⟩
    · exact ⟨Nat.le_refl _, h0⟩
  split
  · rename_i h
    have := contL_lt (Bool.and_eq_true_iff.1 h).2
    split
    · exact ⟨Nat.succ_pos _, this⟩
    · exact ⟨Nat.le_refl _, h0⟩
  · exact ⟨Nat.le_refl _, h0⟩
theorem decL_lo (l : List UInt8) : (decL l).1 < 128 → (decL l).1 = bat l 0 ∧ bat l 0 < 128 := by
  have hr : ¬ Utf8.runeError < 128 := by decide
  unfold decL decM
  split
  · rename_i h; intro _; exact ⟨rfl, h⟩
  split
  · split
    · rename_i h; intro h2; simp only [] at h2; omega
    · intro h; exact absurd h hr
  split
  · split
    · rename_i h
      intro h2
      simp only [Bool.and_eq_true, decide_eq_true_eq] at h
      simp only [] at h2
      omega
    · intro h; exact absurd h hr
  split
  · split
    · rename_i h
      intro h2
      simp only [Bool.and_eq_true, decide_eq_true_eq] at h
      simp only [] at h2
      omega
    · intro h; exact absurd h hr
  · intro h; exact absurd h hr
theorem decL_asc {c : UInt8} (r : List UInt8) (hc : c.toNat < 128) : decL (c :: r) = (c.toNat, 1) := by
  unfold decL decM
  rw [if_pos (show bat (c :: r) 0 < 128 from hc)]; rfl
def rL : Nat → List UInt8 → List Nat
  | 0, _ => []
  | _, [] => []
  | f + 1, c :: r => (decL (c :: r)).1 :: rL f ((c :: r).drop (decL (c :: r)).2)
theorem rL_nil (f : Nat) : rL f [] = [] := by cases f <;> rfl
theorem rL_fuel : ∀ (f g : Nat) (l : List UInt8), l.length ≤ f → l.length ≤ g → rL f l = rL g l
  | 0, g, l, h, _ => by
    have : l = [] := List.length_eq_zero_iff.1 (by omega)
    subst this; rw [rL_nil, rL_nil]
  | f + 1, 0, l, _, h => by
    have : l = [] := List.length_eq_zero_iff.1 (by omega)
    subst this; rw [rL_nil, rL_nil]
  | f + 1, g + 1, [], _, _ => rfl
  | f + 1, g + 1, c :: r, h, h2 => by
    have hw := decL_w (c :: r) (by simp)
    have hd : ((c :: r).drop (decL (c :: r)).2).length = (c :: r).length - (decL (c :: r)).2 := List.length_drop
    unfold rL
    rw [rL_fuel f g _ (by omega) (by omega)]
def runesL (l : List UInt8) : List Nat := rL l.length l
theorem runesL_nil : runesL [] = [] := rfl
theorem runesL_cons (c : UInt8) (r : List UInt8) : runesL (c :: r) = (decL (c :: r)).1 :: runesL ((c :: r).drop (decL (c :: r)).2) := by
  have hw := decL_w (c :: r) (by simp)
  have hd : ((c :: r).drop (decL (c :: r)).2).length = (c :: r).length - (decL (c :: r)).2 := List.length_drop
  show (decL (c :: r)).1 :: rL r.length _ = _
  unfold runesL
  rw [rL_fuel r.length _ _ (by rw [hd]; simp at hw ⊢; omega) (Nat.le_refl _)]
theorem runesL_ne {l : List UInt8} (h : l ≠ []) : runesL l ≠ [] := by
  cases l with
  | nil => exact absurd rfl h
  | cons c r => rw [runesL_cons]; simp
theorem runesL_len : ∀ (n : Nat) (l : List UInt8), l.length ≤ n → (runesL l).length ≤ l.length
  | 0, l, h => by
    have : l = [] := List.length_eq_zero_iff.1 (by omega)
    subst this; exact Nat.le_refl _
  | n + 1, [], _ => Nat.le_refl _
  | n + 1, c :: r, h => by
    have hw := decL_w (c :: r) (by simp)
    have hd : ((c :: r).drop (decL (c :: r)).2).length = (c :: r).length - (decL (c :: r)).2 := List.length_drop
    rw [runesL_cons]
    have := runesL_len n ((c :: r).drop (decL (c :: r)).2) (by simp at h hw hd ⊢; omega)
    simp only [List.length_cons] at this hw hd ⊢
    omega
theorem runesL_app : ∀ (n : Nat) (l : List UInt8) (c : UInt8) (r : List UInt8), l.length ≤ n → c.toNat < 128 → runesL (l ++ c :: r) = runesL l ++ c.toNat :: runesL r
  | n, [], c, r, _, hc => by
    show runesL (c :: r) = c.toNat :: runesL r
    rw [runesL_cons, decL_asc r hc]; rfl
  | 0, a :: l, c, r, h, _ => by simp at h
  | n + 1, a :: l, c, r, h, hc => by
    have hw := decL_w (a :: l) (by simp)
    have e : decL (a :: (l ++ c :: r)) = decL (a :: l) := decL_app (l := a :: l) r (by simp) hc
    show runesL (a :: (l ++ c :: r)) = _
    rw [runesL_cons, runesL_cons, e]
    have hd : (a :: (l ++ c :: r)).drop (decL (a :: l)).2 = (a :: l).drop (decL (a :: l)).2 ++ c :: r := by
      rw [show a :: (l ++ c :: r) = (a :: l) ++ c :: r from rfl, List.drop_append_of_le_length hw.2]
    rw [hd, runesL_app n _ c r (by rw [List.length_drop]; simp at h hw ⊢; omega) hc]
    rfl
def grp {α : Type} (p : α → Bool) : List α → List α → List (List α)
  | cur, [] => if cur.isEmpty then [] else [cur]
  | cur, c :: r => if p c then (if cur.isEmpty then grp p [] r else cur :: grp p [] r) else grp p (cur ++ [c]) r
theorem grp_app {α : Type} (p : α → Bool) : ∀ (l cur : List α) (b : α) (r : List α), (∀ x ∈ l, p x = false) → p b = true → grp p cur (l ++ b :: r) = if (cur ++ l).isEmpty then grp p [] r else (cur ++ l) :: grp p [] r
  | [], cur, b, r, _, hb => by
    show (if p b then (if cur.isEmpty then grp p [] r else cur :: grp p [] r) else grp p (cur ++ [b]) r) = _
    rw [if_pos hb, List.append_nil]
  | c :: l, cur, b, r, h, hb => by
    show (if p c then (if cur.isEmpty then grp p [] (l ++ b :: r) else cur :: grp p [] (l ++ b :: r)) else grp p (cur ++ [c]) (l ++ b :: r)) = _
    rw [if_neg (by rw [h c (by simp)]; simp), grp_app p l (cur ++ [c]) b r (fun x hx => h x (by simp [hx])) hb]
    simp
theorem grp_end {α : Type} (p : α → Bool) : ∀ (l cur : List α), (∀ x ∈ l, p x = false) → grp p cur l = if (cur ++ l).isEmpty then [] else [cur ++ l]
  | [], cur, _ => by rw [List.append_nil]; rfl
  | c :: l, cur, h => by
    show (if p c then (if cur.isEmpty then grp p [] l else cur :: grp p [] l) else grp p (cur ++ [c]) l) = _
    rw [if_neg (by rw [h c (by simp)]; simp), grp_end p l (cur ++ [c]) (fun x hx => h x (by simp [hx]))]
    simp
def blN (n : Nat) : Bool := Nat.beq n 32 || Nat.beq n 9 || Nat.beq n 10
def blB (c : UInt8) : Bool := blN c.toNat
theorem blN_lo {n : Nat} (h : blN n = true) : n < 128 := by
  unfold blN at h
  simp only [Bool.or_eq_true, Nat.beq_eq] at h
  omega
theorem runesL_nob : ∀ (n : Nat) (l : List UInt8), l.length ≤ n → (∀ c ∈ l, blB c = false) → ∀ x ∈ runesL l, blN x = false
  | _, [], _, _, x, hx => by cases hx
  | 0, a :: l, h, _, _, _ => by simp at h
  | n + 1, a :: l, h, hb, x, hx => by
    have hw := decL_w (a :: l) (by simp)
    rw [runesL_cons] at hx
    rcases List.mem_cons.1 hx with rfl | hx
    · cases hq : blN (decL (a :: l)).1 with
      | false => rfl
      | true =>
        obtain ⟨e, _⟩ := decL_lo (a :: l) (blN_lo hq)
        rw [e] at hq
        have : blB a = true := hq
        rw [hb a (by simp)] at this; cases this
    · exact runesL_nob n _ (by rw [List.length_drop]; simp at h hw ⊢; omega) (fun c hc => hb c (List.mem_of_mem_drop hc)) x hx
theorem tw_mem {α : Type} (p : α → Bool) : ∀ (l : List α) (c : α), c ∈ l.takeWhile p → p c = true
  | [], c, h => by cases h
  | a :: l, c, h => by
    rw [List.takeWhile_cons] at h
    split at h
    · rename_i ha
      rcases List.mem_cons.1 h with rfl | h
      · exact ha
      · exact tw_mem p l c h
    · cases h
def words (v : List UInt8) : List (List UInt8) := grp blB [] v
theorem fields_words : ∀ (n : Nat) (v : List UInt8), v.length ≤ n → grp blN [] (runesL v) = (words v).map runesL := by
  intro n
  induction n with
  | zero =>
    intro v h
    have : v = [] := List.length_eq_zero_iff.1 (by omega)
    subst this; rfl
  | succ n ih =>
    intro v h
    have hsp : v = v.takeWhile (fun c => !blB c) ++ v.dropWhile (fun c => !blB c) := (List.takeWhile_append_dropWhile).symm
    have htk : ∀ c ∈ v.takeWhile (fun c => !blB c), blB c = false := fun c hc => by
      have := tw_mem (fun c => !blB c) v c hc
      simpa using this
    obtain ⟨w, hw⟩ : ∃ w, w = v.takeWhile (fun c => !blB c) := ⟨_, rfl⟩
    rw [← hw] at hsp htk
    cases hd : v.dropWhile (fun c => !blB c) with
    | nil =>
      rw [hd, List.append_nil] at hsp
      subst hsp
      unfold words
      rw [grp_end blB _ _ htk, grp_end blN _ _ (runesL_nob _ _ (Nat.le_refl _) htk), List.nil_append, List.nil_append]
      cases v with
      | nil => rfl
      | cons c r =>
        rw [if_neg (by rw [runesL_cons]; simp), if_neg (by simp)]; rfl
    | cons b r =>
      have hb : blB b = true := by
        have := List.head_dropWhile_not (fun c => !blB c) (l := v) (by rw [hd]; simp)
        simp only [hd, List.head_cons] at this
        simpa using this
      rw [hd] at hsp
      have hlen := congrArg List.length hsp
      rw [List.length_append, List.length_cons] at hlen
      have ihr := ih r (by omega)
      unfold words at ihr ⊢
      rw [hsp, runesL_app _ w b r (Nat.le_refl _) (blN_lo hb), grp_app blB w [] b r htk hb, grp_app blN (runesL w) [] b.toNat (runesL r) (runesL_nob _ _ (Nat.le_refl _) htk) hb, ihr, List.nil_append, List.nil_append]
      cases w with
      | nil => rfl
      | cons c w' => rw [if_neg (by rw [runesL_cons]; simp), if_neg (by simp)]; rfl
end Wq
