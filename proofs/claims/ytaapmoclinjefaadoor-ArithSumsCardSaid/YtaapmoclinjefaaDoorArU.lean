import Derived.Test.YtaapmoclinjefaaDoorArT
namespace Ar
open Go Go.Proofs Ev Go.Lib Nu
set_option linter.unusedVariables false
set_option linter.unusedSimpArgs false
set_option linter.unnecessarySimpa false
set_option maxRecDepth 100000
/-! the parser, reckoned -/
def pf : Nat → Kd → List UInt8 → Bool → Option (Tr × List UInt8 × Bool)
  | 0, _, _, _ => none
  | n + 1, .U, l, b =>
    if (tk sgU l).1 = [] then
      (if tw digN (tk sgU l).2 = [] then
        (if nameB (tw moreN (tk sgU l).2) = true then some (.nam (tw moreN (tk sgU l).2), (tk sgU l).2.drop (tw moreN (tk sgU l).2).length, b) else some (.nam (tw moreN (tk sgU l).2), [], true))
      else some (.dig (tw digN (tk sgU l).2), (tk sgU l).2.drop (tw digN (tk sgU l).2).length, b))
    else if (tk sgU l).1 = [40] then
      (match pf n .X (tk sgU l).2 b with
      | some (t, l1, b1) => some (t, (tk sgC l1).2, b1 || (tk sgC l1).1 == [])
      | none => none)
    else match pf n .U (tk sgU l).2 b with
      | some (t, l1, b1) => some (.un (tk sgU l).1 t, l1, b1)
      | none => none
  | n + 1, .P, l, b => match pf n .U l b with
    | some (t, l1, b1) => pf n (.PL t) l1 b1
    | none => none
  | n + 1, .PL t, l, true => some (t, l, true)
  | n + 1, .PL t, l, false => if (tk sgP l).1 = [] then some (t, (tk sgP l).2, false) else match pf n .U (tk sgP l).2 false with
    | some (u, l1, b1) => pf n (.PL (.bin (tk sgP l).1 t u)) l1 b1
    | none => none
  | n + 1, .S, l, b => match pf n .P l b with
    | some (t, l1, b1) => pf n (.SL t) l1 b1
    | none => none
  | n + 1, .SL t, l, true => some (t, l, true)
  | n + 1, .SL t, l, false => if (tk sgS l).1 = [] then some (t, (tk sgS l).2, false) else match pf n .P (tk sgS l).2 false with
    | some (u, l1, b1) => pf n (.SL (.bin (tk sgS l).1 t u)) l1 b1
    | none => none
  | n + 1, .X, l, b => match pf n .S l b with
    | some (t, l1, b1) => if (tk sgX l1).1 = [] then some (t, (tk sgX l1).2, b1) else (match pf n .S (tk sgX l1).2 b1 with
      | some (u, l2, b2) => some (.bin (tk sgX l1).1 t u, l2, b2)
      | none => none)
    | none => none
theorem pf_ok : ∀ (n : Nat) (k : Kd) (l : List UInt8) (b : Bool) (t : Tr) (l' : List UInt8) (b' : Bool), pf n k l b = some (t, l', b') → Ps k l b t l' b' := by
  intro n
  induction n with
  | zero => intro k l b t l' b' h; cases k <;> cases h
  | succ n ih =>
    intro k l b t l' b' h
    cases k with
    | U =>
      unfold pf at h
      split at h
      · rename_i h1
        split at h
        · rename_i h2
          split at h
          · rename_i h3; cases h; exact .nam h1 h2 h3
          · rename_i h3; cases h; exact .namx h1 h2 (by simpa using h3)
        · rename_i h2; cases h; exact .dig h1 h2
      · rename_i h1
        split at h
        · rename_i h2
          split at h
          · rename_i t1 l1 b1 e; cases h; exact .par h2 (ih _ _ _ _ _ _ e)
          · cases h
        · rename_i h2
          split at h
          · rename_i t1 l1 b1 e; cases h; exact .sign h1 h2 (ih _ _ _ _ _ _ e)
          · cases h
    | P =>
      unfold pf at h
      split at h
      · rename_i t1 l1 b1 e; exact .prod (ih _ _ _ _ _ _ e) (ih _ _ _ _ _ _ h)
      · cases h
    | S =>
      unfold pf at h
      split at h
      · rename_i t1 l1 b1 e; exact .sum (ih _ _ _ _ _ _ e) (ih _ _ _ _ _ _ h)
      · cases h
    | X =>
      unfold pf at h
      split at h
      · rename_i t1 l1 b1 e
        split at h
        · rename_i h1; cases h; exact .expr (ih _ _ _ _ _ _ e) h1
        · rename_i h1
          split at h
          · rename_i u l2 b2 e2; cases h; exact .cmp (ih _ _ _ _ _ _ e) h1 (ih _ _ _ _ _ _ e2)
          · cases h
      · cases h
    | PL t0 =>
      cases b with
      | true => unfold pf at h; cases h; exact .pbad
      | false =>
        unfold pf at h
        split at h
        · rename_i h1; cases h; exact .pend h1
        · rename_i h1
          split at h
          · rename_i u l1 b1 e; exact .pmore h1 (ih _ _ _ _ _ _ e) (ih _ _ _ _ _ _ h)
          · cases h
    | SL t0 =>
      cases b with
      | true => unfold pf at h; cases h; exact .sbad
      | false =>
        unfold pf at h
        split at h
        · rename_i h1; cases h; exact .send h1
        · rename_i h1
          split at h
          · rename_i u l1 b1 e; exact .smore h1 (ih _ _ _ _ _ _ e) (ih _ _ _ _ _ _ h)
          · cases h
/-! the four texts -/
def tA : Tr := .nam [97]
def tB : Tr := .nam [98]
def x1 : List UInt8 := [97, 32, 43, 32, 98]
def x2 : List UInt8 := [97, 42, 98, 32, 45, 32, 98]
def x3 : List UInt8 := [97, 32, 60, 32, 98]
def x4 : List UInt8 := [97, 32, 47, 32, 98, 32, 42, 32, 98, 32, 43, 32, 97, 32, 37, 32, 98]
theorem p1 : Ps .X x1 false (.bin [43] tA tB) [] false := pf_ok 20 _ _ _ _ _ _ (by kernel_rfl)
theorem p2 : Ps .X x2 false (.bin [45] (.bin [42] tA tB) tB) [] false := pf_ok 20 _ _ _ _ _ _ (by kernel_rfl)
theorem p3 : Ps .X x3 false (.bin [60] tA tB) [] false := pf_ok 20 _ _ _ _ _ _ (by kernel_rfl)
theorem p4 : Ps .X x4 false (.bin [43] (.bin [42] (.bin [47] tA tB) tB) (.bin [37] tA tB)) [] false := pf_ok 20 _ _ _ _ _ _ (by kernel_rfl)
/-! what they come to -/
def vsS (a b : Int) : List (List UInt8 × List UInt8) := [([97], itoaL a), ([98], itoaL b)]
theorem prod_bd {a b : Int} (h1 : -1073741824 ≤ a) (h2 : a ≤ 1073741824) (h3 : -1073741824 ≤ b) (h4 : b ≤ 1073741824) : -1152921504606846976 ≤ a * b ∧ a * b ≤ 1152921504606846976 := by
  have ha : a.natAbs ≤ 1073741824 := by omega
  have hb : b.natAbs ≤ 1073741824 := by omega
  have h := Nat.mul_le_mul ha hb
  rw [← Int.natAbs_mul] at h
  omega
theorem wr_id {n : Int} (h1 : -9223372036854775808 ≤ n) (h2 : n ≤ 9223372036854775807) : wr n = n := w64 h1 h2
theorem val_a {a b : Int} (h1 : -1073741824 ≤ a) (h2 : a ≤ 1073741824) : valV [97] (vsS a b) = (a, true) := by
  have h := num_itoa a (by omega) (by omega)
  have hne : itoaL a ≠ [] := fun e => by rw [e] at h; cases h
  unfold valV vsS
  simp only [if_pos rfl, if_neg hne, h]
  rfl
theorem val_b {a b : Int} (h1 : -1073741824 ≤ b) (h2 : b ≤ 1073741824) : valV [98] (vsS a b) = (b, true) := by
  have h := num_itoa b (by omega) (by omega)
  have hne : itoaL b ≠ [] := fun e => by rw [e] at h; cases h
  simp [valV, vsS, hne, h]
theorem add_ok {a b : Int} (h1 : -4611686018427387904 ≤ a) (h2 : a ≤ 4611686018427387904) (h3 : -4611686018427387904 ≤ b) (h4 : b ≤ 4611686018427387904) (h5 : a + b < 9223372036854775808) : twoF [43] a b = (a + b, true) := by
  unfold twoF
  rw [if_pos rfl, wr_id (by omega) (by omega)]
  congr 1
  by_cases ha : 0 ≤ a <;> by_cases hb : 0 ≤ b <;> by_cases hc : 0 ≤ a + b <;> first | omega | simp [ha, hb, hc]
theorem sub_ok {a b : Int} (h1 : -4611686018427387904 ≤ a) (h2 : a ≤ 4611686018427387904) (h3 : -1073741824 ≤ b) (h4 : b ≤ 1073741824) : twoF [45] a b = (a - b, true) := by
  unfold twoF
  rw [if_neg (by decide), if_pos rfl, wr_id (by omega) (by omega)]
  congr 1
  by_cases ha : 0 ≤ a <;> by_cases hb : 0 ≤ b <;> by_cases hc : 0 ≤ a - b <;> first | omega | (simp [ha, hb, hc]; done) | (simp [ha, hb, hc]; omega)
theorem mul_ok {a b : Int} (h1 : -1073741824 ≤ a) (h2 : a ≤ 1073741824) (h3 : -1073741824 ≤ b) (h4 : b ≤ 1073741824) : twoF [42] a b = (a * b, true) := by
  obtain ⟨g1, g2⟩ := prod_bd h1 h2 h3 h4
  unfold twoF
  rw [if_neg (by decide), if_neg (by decide), if_pos rfl]
  unfold timesF minI
  by_cases h : a = 0 ∨ b = 0
  · rw [if_pos h]
    rcases h with rfl | rfl
    · simp
    · simp
  · rw [if_neg h, if_neg (by omega), wr_id (n := a * b) (by omega) (by omega), Int.mul_tdiv_cancel _ (fun e => h (.inr e)), wr_id (by omega) (by omega)]
    simp
theorem tdiv_bd {a b : Int} (h1 : -1073741824 ≤ a) (h2 : a ≤ 1073741824) : -1073741824 ≤ a.tdiv b ∧ a.tdiv b ≤ 1073741824 := by
  have h := Int.natAbs_tdiv_le_natAbs a b
  omega
theorem div_ok {a b : Int} (h1 : -1073741824 ≤ a) (h2 : a ≤ 1073741824) (hb : b ≠ 0) : twoF [47] a b = (a.tdiv b, true) := by
  have h := tdiv_bd (b := b) h1 h2
  unfold twoF
  rw [if_neg (by decide), if_neg (by decide), if_neg (by decide), if_pos rfl, if_neg (by unfold minI; omega), wr_id (by omega) (by omega)]
theorem div_no {a b : Int} (hb : b = 0) : twoF [47] a b = (0, false) := by
  unfold twoF
  rw [if_neg (by decide), if_neg (by decide), if_neg (by decide), if_pos rfl, if_pos (.inl hb)]
theorem rem_ok {a b : Int} (hb : b ≠ 0) : twoF [37] a b = (a.tmod b, true) := by
  unfold twoF
  rw [if_neg (by decide), if_neg (by decide), if_neg (by decide), if_neg (by decide), if_pos rfl, if_neg hb]
theorem lss_ok {a b : Int} : twoF [60] a b = (if decide (a < b) = true then 1 else 0, true) := by
  unfold twoF
  rw [if_neg (by decide), if_neg (by decide), if_neg (by decide), if_neg (by decide), if_neg (by decide), if_pos rfl]
  rfl
theorem ev_a {a b : Int} (h1 : -1073741824 ≤ a) (h2 : a ≤ 1073741824) : evF (vsS a b) tA = (a, true) := by
  unfold tA
  rw [evF]
  exact val_a h1 h2
theorem ev_b {a b : Int} (h1 : -1073741824 ≤ b) (h2 : b ≤ 1073741824) : evF (vsS a b) tB = (b, true) := by
  unfold tB
  rw [evF]
  exact val_b h1 h2
section
variable {a b : Int} (h1 : -1073741824 ≤ a) (h2 : a ≤ 1073741824) (h3 : -1073741824 ≤ b) (h4 : b ≤ 1073741824)
theorem ev_bin {vs : List (List UInt8 × List UInt8)} {op : List UInt8} {s t : Tr} {x y : Int} (hs : evF vs s = (x, true)) (ht : evF vs t = (y, true)) : evF vs (.bin op s t) = twoF op x y := by
  rw [evF, hs, ht]; simp
theorem ev_no {vs : List (List UInt8 × List UInt8)} {op : List UInt8} {s t : Tr} {x : Int} (hs : evF vs s = (x, false)) : evF vs (.bin op s t) = (0, false) := by
  rw [evF, hs]; simp
theorem evalF_ok {vs : List (List UInt8 × List UInt8)} {t : Tr} {x : Int} (h : evF vs t = (x, true)) : evalF vs t [] false = (x, 0) := by
  unfold evalF
  rw [if_neg (fun h => h.elim (by simp) (fun h => h rfl)), h, if_pos rfl]
theorem evalF_no {vs : List (List UInt8 × List UInt8)} {t : Tr} {x : Int} (h : evF vs t = (x, false)) : evalF vs t [] false = (0, 6) := by
  unfold evalF
  rw [if_neg (fun h => h.elim (by simp) (fun h => h rfl)), h, if_neg (by simp)]
include h1 h2 h3 h4
theorem E1 : evalF (vsS a b) (.bin [43] tA tB) [] false = (a + b, 0) :=
  evalF_ok ((ev_bin (ev_a h1 h2) (ev_b h3 h4)).trans (add_ok (by omega) (by omega) (by omega) (by omega) (by omega)))
theorem E2 : evalF (vsS a b) (.bin [45] (.bin [42] tA tB) tB) [] false = (a * b - b, 0) := by
  obtain ⟨g1, g2⟩ := prod_bd h1 h2 h3 h4
  exact evalF_ok ((ev_bin ((ev_bin (ev_a h1 h2) (ev_b h3 h4)).trans (mul_ok h1 h2 h3 h4)) (ev_b h3 h4)).trans (sub_ok (by omega) (by omega) h3 h4))
theorem E3 : evalF (vsS a b) (.bin [60] tA tB) [] false = (if decide (a < b) = true then 1 else 0, 0) :=
  evalF_ok ((ev_bin (ev_a h1 h2) (ev_b h3 h4)).trans lss_ok)
theorem E4 (hb : b ≠ 0) : evalF (vsS a b) (.bin [43] (.bin [42] (.bin [47] tA tB) tB) (.bin [37] tA tB)) [] false = (a, 0) := by
  obtain ⟨q1, q2⟩ := tdiv_bd (b := b) h1 h2
  obtain ⟨g1, g2⟩ := prod_bd q1 q2 h3 h4
  have e := Int.tdiv_mul_add_tmod a b
  have hm : -1073741824 ≤ a.tmod b ∧ a.tmod b ≤ 1073741824 := by
    have := Int.natAbs_tmod a b
    have := Nat.mod_le a.natAbs b.natAbs
    omega
  have := evalF_ok ((ev_bin ((ev_bin ((ev_bin (ev_a h1 h2) (ev_b h3 h4)).trans (div_ok h1 h2 hb)) (ev_b h3 h4)).trans (mul_ok q1 q2 h3 h4)) ((ev_bin (ev_a h1 h2) (ev_b h3 h4)).trans (rem_ok hb))).trans (add_ok (by omega) (by omega) (by omega) (by omega) (by omega)))
  rw [e] at this
  exact this
theorem E4z (hb : b = 0) : evalF (vsS a b) (.bin [43] (.bin [42] (.bin [47] tA tB) tB) (.bin [37] tA tB)) [] false = (0, 6) :=
  evalF_no (x := 0) (ev_no (ev_no ((ev_bin (ev_a h1 h2) (ev_b h3 h4)).trans (div_no hb))))
end
end Ar
