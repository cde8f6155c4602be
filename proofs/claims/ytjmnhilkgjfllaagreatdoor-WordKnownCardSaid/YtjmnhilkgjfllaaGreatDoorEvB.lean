import Derived.Test.YtjmnhilkgjfllaaGreatDoorEvA
set_option linter.unusedVariables false
set_option linter.unusedSimpArgs false
namespace Ev
open Go

/-! ### trees -/
namespace T
variable {α : Type}

@[simp] theorem get_nil (n : Nat) : (T.nil : T α).get n = none := rfl
theorem get_node_zero (v : Option α) (a b c d : T α) : (T.node v a b c d).get 0 = v := rfl
def child (k : Nat) (a b c d : T α) : T α := match k % 4 with
  | 0 => a
  | 1 => b
  | 2 => c
  | _ => d
theorem mod4 (k : Nat) : k % 4 = 0 ∨ k % 4 = 1 ∨ k % 4 = 2 ∨ k % 4 = 3 := by omega
theorem pick4_eq {β : Type} (k : Nat) (x0 x1 x2 x3 : β) : pick4 (k % 4) x0 x1 x2 x3 = match k % 4 with | 0 => x0 | 1 => x1 | 2 => x2 | _ => x3 := by
  rcases mod4 k with h | h | h | h <;> rw [h] <;> rfl
theorem get_node_succ (v : Option α) (a b c d : T α) (k : Nat) : (T.node v a b c d).get (k + 1) = (child k a b c d).get (k / 4) := by
  show pick4 (k % 4) a.get b.get c.get d.get (k / 4) = _
  rw [pick4_eq]; unfold child
  rcases mod4 k with h | h | h | h <;> simp [h]

theorem in_eq (v : Option α) (a b c t : T α) (h : t ≠ .nil ∨ True) : T.in0 v a b c t = .node v t a b c ∧ T.in1 v a b c t = .node v a t b c ∧ T.in2 v a b c t = .node v a b t c ∧ T.in3 v a b c t = .node v a b c t := by
  cases t <;> exact ⟨rfl, rfl, rfl, rfl⟩
@[simp] theorem in0_eq (v : Option α) (a b c t : T α) : T.in0 v a b c t = .node v t a b c := (in_eq v a b c t (.inr trivial)).1
@[simp] theorem in1_eq (v : Option α) (a b c t : T α) : T.in1 v a b c t = .node v a t b c := (in_eq v a b c t (.inr trivial)).2.1
@[simp] theorem in2_eq (v : Option α) (a b c t : T α) : T.in2 v a b c t = .node v a b t c := (in_eq v a b c t (.inr trivial)).2.2.1
@[simp] theorem in3_eq (v : Option α) (a b c t : T α) : T.in3 v a b c t = .node v a b c t := (in_eq v a b c t (.inr trivial)).2.2.2

def val : T α → Option α
  | .nil => none
  | .node v _ _ _ _ => v
def kid (k : Nat) : T α → T α
  | .nil => .nil
  | .node _ a b c d => child k a b c d
theorem get_zero (t : T α) : t.get 0 = t.val := by cases t <;> rfl
theorem get_succ (t : T α) (k : Nat) : t.get (k + 1) = (t.kid k).get (k / 4) := by
  cases t with
  | nil => rfl
  | node v a b c d => exact get_node_succ v a b c d k
theorem child_nil (k : Nat) : child k (T.nil : T α) .nil .nil .nil = .nil := by
  unfold child; rcases mod4 k with h | h | h | h <;> simp [h]

/-- what setD makes: its root, its children -/
theorem setD_zero (x : Option α) (d : Nat) (t : T α) : (setD x (d + 1) t 0).val = x ∧ ∀ k, (setD x (d + 1) t 0).kid k = t.kid k := by
  cases t with
  | nil => exact ⟨rfl, fun k => child_nil k⟩
  | node v a b c e => exact ⟨rfl, fun k => rfl⟩
theorem setD_succ (x : Option α) (d : Nat) (t : T α) (k : Nat) : (setD x (d + 1) t (k + 1)).val = t.val ∧
    ∀ j, (setD x (d + 1) t (k + 1)).kid j = if j % 4 = k % 4 then setD x d (t.kid k) (k / 4) else t.kid j := by
  cases t with
  | nil =>
    have e : setD x (d + 1) (T.nil : T α) (k + 1) = pick4 (k % 4) (T.in0 none .nil .nil .nil) (T.in1 none .nil .nil .nil) (T.in2 none .nil .nil .nil) (T.in3 none .nil .nil .nil) (setD x d .nil (k / 4)) := rfl
    rw [e, pick4_eq]
    rcases mod4 k with h | h | h | h <;> rw [h] <;> refine ⟨by simp [val], fun j => ?_⟩ <;> rcases mod4 j with g | g | g | g <;> simp [kid, child, g]
  | node v a b c e =>
    have q : setD x (d + 1) (.node v a b c e) (k + 1) = @pick4 (Nat → T α) (k % 4) (fun m => T.in0 v b c e (setD x d a m)) (fun m => T.in1 v a c e (setD x d b m)) (fun m => T.in2 v a b e (setD x d c m)) (fun m => T.in3 v a b c (setD x d e m)) (k / 4) := rfl
    rw [q, pick4_eq]
    rcases mod4 k with h | h | h | h <;> simp only [h] <;> refine ⟨by simp [val], fun j => ?_⟩ <;> rcases mod4 j with g | g | g | g <;> simp [kid, child, g, h]

def lvl (n : Nat) : Nat := match n with
  | 0 => 0
  | k + 1 => lvl (k / 4) + 1
termination_by n
decreasing_by omega
theorem lvl_zero : lvl 0 = 0 := by unfold lvl; rfl
theorem lvl_succ (k : Nat) : lvl (k + 1) = lvl (k / 4) + 1 := by rw [lvl]
theorem log2_mono {a b : Nat} (ha : a ≠ 0) (h : a ≤ b) : Nat.log2 a ≤ Nat.log2 b :=
  (Nat.le_log2 (by omega)).2 (Nat.le_trans (Nat.log2_self_le ha) h)
theorem lvl_le (n : Nat) : lvl n ≤ Nat.log2 (n + 1) := by
  induction n using Nat.strongRecOn with
  | _ n ih =>
    cases n with
    | zero => rw [lvl_zero]; omega
    | succ k =>
      rw [lvl_succ]
      have h1 := ih (k / 4) (by omega)
      have h2 : Nat.log2 (2 * (k / 4 + 1)) = Nat.log2 (k / 4 + 1) + 1 := Nat.log2_two_mul (by omega)
      have h3 : Nat.log2 (2 * (k / 4 + 1)) ≤ Nat.log2 (k + 1 + 1) := log2_mono (by omega) (by omega)
      omega

theorem get_setD (x : Option α) : ∀ (d : Nat) (t : T α) (n m : Nat), lvl n < d → (setD x d t n).get m = if m = n then x else t.get m := by
  intro d
  induction d with
  | zero => intro t n m h; omega
  | succ d ih =>
    intro t n m h
    cases n with
    | zero =>
      obtain ⟨h1, h2⟩ := setD_zero x d t
      cases m with
      | zero => simp [get_zero, h1]
      | succ j => simp [get_succ, h2]
    | succ k =>
      obtain ⟨h1, h2⟩ := setD_succ x d t k
      rw [lvl_succ] at h
      cases m with
      | zero => simp [get_zero, h1]
      | succ j =>
        rw [get_succ, h2, get_succ]
        by_cases e : j % 4 = k % 4
        · rw [if_pos e, ih _ _ _ (by omega)]
          have e2 : t.kid j = t.kid k := by cases t <;> simp [kid, child, e]
          rw [e2]
          by_cases e3 : j / 4 = k / 4
          · have : j = k := by omega
            simp [this]
          · have : j ≠ k := fun h => e3 (by rw [h])
            simp [e3, this]
        · have : j ≠ k := fun h => e (by rw [h])
          simp [e, this]

theorem get_set (t : T α) (n m : Nat) (x : α) : (t.set n x).get m = if m = n then some x else t.get m :=
  get_setD (some x) _ t n m (by have := lvl_le n; show lvl n < Nat.log2 (n + 1) + 1; omega)
theorem get_set_same (t : T α) (n : Nat) (x : α) : (t.set n x).get n = some x := by rw [get_set, if_pos rfl]
theorem get_set_ne (t : T α) {n m : Nat} (x : α) (h : m ≠ n) : (t.set n x).get m = t.get m := by rw [get_set, if_neg h]

theorem setL_nil (t : T α) (i : Nat) : t.setL i [] = t := rfl
theorem setL_cons (t : T α) (i : Nat) (x : α) (l : List α) : t.setL i (x :: l) = (t.set i x).setL (i + 1) l := rfl
theorem get_setL (l : List α) : ∀ (t : T α) (i m : Nat), (t.setL i l).get m = if i ≤ m ∧ m < i + l.length then l[m - i]? else t.get m := by
  induction l with
  | nil => intro t i m; rw [setL_nil, if_neg (by simp)]
  | cons x l ih =>
    intro t i m
    rw [setL_cons, ih, get_set]
    by_cases h1 : i + 1 ≤ m ∧ m < i + 1 + l.length
    · rw [if_pos h1, if_pos (by simp; omega)]
      have : m - i = (m - (i + 1)) + 1 := by omega
      rw [this]; rfl
    · rw [if_neg h1]
      by_cases h2 : m = i
      · subst h2; rw [if_pos rfl, if_pos (by simp)]; simp
      · rw [if_neg h2, if_neg (by simp; omega)]
theorem get_ofL (l : List α) (m : Nat) : (T.ofL l).get m = l[m]? := by
  unfold ofL; rw [get_setL]
  by_cases h : m < l.length
  · rw [if_pos (by omega)]; rfl
  · rw [if_neg (by omega), get_nil, List.getElem?_eq_none (by omega)]

theorem getL_zero (t : T α) (i : Nat) : t.getL 0 i = some [] := rfl
theorem getL_succ (t : T α) (n i : Nat) : t.getL (n + 1) i = (t.get i).bind fun x => (t.getL n (i + 1)).map (x :: ·) := by
  show @Option.rec α (fun _ => Option (List α)) none (fun x => @Option.rec (List α) (fun _ => Option (List α)) none (fun l => some (x :: l)) (t.getL n (i + 1))) (t.get i) = _
  cases t.get i with
  | none => rfl
  | some x => cases t.getL n (i + 1) <;> rfl
theorem getL_some {t : T α} : ∀ {n i : Nat} {l : List α}, t.getL n i = some l → l.length = n ∧ ∀ j, j < n → t.get (i + j) = l[j]? := by
  intro n
  induction n with
  | zero => intro i l h; rw [getL_zero] at h; cases h; exact ⟨rfl, fun j hj => by omega⟩
  | succ n ih =>
    intro i l h
    rw [getL_succ] at h
    cases hx : t.get i with
    | none => simp [hx] at h
    | some x =>
      cases hl : t.getL n (i + 1) with
      | none => simp [hx, hl] at h
      | some r =>
        simp [hx, hl] at h
        subst h
        obtain ⟨h1, h2⟩ := ih hl
        refine ⟨by simp [h1], fun j hj => ?_⟩
        cases j with
        | zero => simpa using hx
        | succ j => have := h2 j (by omega); rw [show i + (j + 1) = i + 1 + j by omega, this]; rfl
theorem getL_of {t : T α} : ∀ {n i : Nat} {l : List α}, l.length = n → (∀ j, j < n → t.get (i + j) = l[j]?) → t.getL n i = some l := by
  intro n
  induction n with
  | zero => intro i l h _; rw [getL_zero, List.length_eq_zero_iff.1 h]
  | succ n ih =>
    intro i l h hg
    cases l with
    | nil => simp at h
    | cons x l =>
      rw [getL_succ]
      have h0 := hg 0 (by omega)
      simp at h0
      rw [h0]
      have := @ih (i + 1) l (by simpa using h) (fun j hj => by have := hg (j + 1) (by omega); rw [show i + 1 + j = i + (j + 1) by omega, this]; rfl)
      rw [this]; rfl
end T

theorem lenA_eq {α : Type} : ∀ (l : List α) (n : Nat), lenA l n = n + l.length
  | [], n => rfl
  | _ :: l, n => by show lenA l (n + 1) = _; rw [lenA_eq l, List.length_cons]; omega
theorem lenA_zero {α : Type} (l : List α) : lenA l 0 = l.length := by rw [lenA_eq]; omega

@[simp] theorem force_eq {α : Type} (n : Nat) (k : Nat → α) : force n k = k n := by cases n <;> rfl
@[simp] theorem forceI_eq {α : Type} (n : Int) (k : Int → α) : forceI n k = k n := by cases n <;> simp [forceI]

/-! ### kinds, numbers -/
theorem kEq_iff (j k : IntKind) : kEq j k = true ↔ j = k := by cases j <;> cases k <;> decide
theorem iEq_eq (a b : Int) : iEq a b = decide (a = b) := by
  cases a with
  | ofNat a => cases b with
    | ofNat b => rw [Bool.eq_iff_iff, decide_eq_true_eq]; (try simp only [Int.ofNat_eq_natCast]); show Nat.beq a b = true ↔ _; rw [Nat.beq_eq]; omega
    | negSucc b => rw [Bool.eq_iff_iff, decide_eq_true_eq]; (try simp only [Int.ofNat_eq_natCast]); show false = true ↔ _; constructor <;> intro h <;> first | (cases h; done) | omega
  | negSucc a => cases b with
    | ofNat b => rw [Bool.eq_iff_iff, decide_eq_true_eq]; (try simp only [Int.ofNat_eq_natCast]); show false = true ↔ _; constructor <;> intro h <;> first | (cases h; done) | omega
    | negSucc b => rw [Bool.eq_iff_iff, decide_eq_true_eq]; (try simp only [Int.ofNat_eq_natCast]); show Nat.beq a b = true ↔ _; rw [Nat.beq_eq]; omega
theorem iLe_eq (a b : Int) : iLe a b = decide (a ≤ b) := by
  cases a with
  | ofNat a => cases b with
    | ofNat b => rw [Bool.eq_iff_iff, decide_eq_true_eq]; (try simp only [Int.ofNat_eq_natCast]); show Nat.ble a b = true ↔ _; rw [Nat.ble_eq]; omega
    | negSucc b => rw [Bool.eq_iff_iff, decide_eq_true_eq]; (try simp only [Int.ofNat_eq_natCast]); show false = true ↔ _; constructor <;> intro h <;> first | (cases h; done) | omega
  | negSucc a => cases b with
    | ofNat b => rw [Bool.eq_iff_iff, decide_eq_true_eq]; (try simp only [Int.ofNat_eq_natCast]); show true = true ↔ _; constructor <;> intro h <;> first | rfl | omega
    | negSucc b => rw [Bool.eq_iff_iff, decide_eq_true_eq]; (try simp only [Int.ofNat_eq_natCast]); show Nat.ble b a = true ↔ _; rw [Nat.ble_eq]; omega

end Ev
