import Derived.Test.YtjmnhilkgjfllaaGreatDoorEvB
set_option linter.unusedVariables false
set_option linter.unusedSimpArgs false
namespace Ev
open Go

theorem wrap_in (k : IntKind) (n : Int) (h1 : k.min ≤ n) (h2 : n ≤ k.max) : k.wrap n = n := by
  cases k <;> simp [IntKind.wrap, IntKind.min, IntKind.max, IntKind.bits, IntKind.signed] at h1 h2 ⊢ <;> omega
theorem wrapK_eq (k : IntKind) (n : Int) : wrapK k n = k.wrap n := by
  cases n with
  | ofNat m =>
    show (match Nat.ble m (topN k) with | true => Int.ofNat m | false => k.wrap (.ofNat m)) = _
    cases h : Nat.ble m (topN k) with
    | false => rfl
    | true =>
      have h' := Nat.le_of_ble_eq_true h
      refine (wrap_in k _ ?_ ?_).symm <;> simp only [Int.ofNat_eq_natCast] <;> cases k <;> simp [IntKind.min, IntKind.max, IntKind.bits, IntKind.signed, topN] at h' ⊢ <;> omega
  | negSucc m =>
    show (match lowN k m with | true => Int.negSucc m | false => k.wrap (.negSucc m)) = _
    cases h : lowN k m with
    | false => rfl
    | true =>
      refine (wrap_in k _ ?_ ?_).symm <;> cases k <;> simp [lowN] at h <;> (try have h' := Nat.le_of_ble_eq_true h) <;> simp [IntKind.min, IntKind.max, IntKind.bits, IntKind.signed] <;> omega
theorem intC_eq (k : IntKind) (n : Int) : intC k n = some (.int k n) := by simp [intC]

theorem modN_eq (k : IntKind) : modN k = 2 ^ k.bits := by cases k <;> rfl
theorem bitsN_eq (k : IntKind) (n : Int) : bitsN k n = (BitVec.ofInt k.bits n).toNat := by
  rw [BitVec.toNat_ofInt]
  cases n with
  | ofNat m =>
    show m % modN k = _
    rw [modN_eq, Int.ofNat_eq_natCast]
    omega
  | negSucc m =>
    show modN k - 1 - m % modN k = _
    have h : 0 < 2 ^ k.bits := Nat.two_pow_pos _
    rw [modN_eq]
    rw [Int.negSucc_emod _ (by exact_mod_cast h)]
    have := Nat.mod_lt m h
    omega

/-! ### strings -/
def pack (l : List UInt8) : Nat := packL l 0
theorem packL_acc : ∀ (l : List UInt8) (acc : Nat), packL l acc = acc * 256 ^ l.length + pack l
  | [], acc => by simp [packL, pack]
  | b :: l, acc => by
    show packL l (acc * 256 + b.toNat) = _
    have e : pack (b :: l) = packL l (0 * 256 + b.toNat) := rfl
    rw [e, packL_acc l (acc * 256 + b.toNat), packL_acc l (0 * 256 + b.toNat), List.length_cons, Nat.pow_succ, Nat.add_mul, Nat.mul_assoc, Nat.mul_comm (256 ^ l.length) 256]
    simp; omega
theorem pack_cons (b : UInt8) (l : List UInt8) : pack (b :: l) = b.toNat * 256 ^ l.length + pack l := by
  have e : pack (b :: l) = packL l (0 * 256 + b.toNat) := rfl
  rw [e, packL_acc]; simp
theorem pack_lt : ∀ l : List UInt8, pack l < 256 ^ l.length
  | [] => by simp [pack, packL]
  | b :: l => by
    rw [pack_cons, List.length_cons, Nat.pow_succ]
    have h1 := pack_lt l
    have h2 : b.toNat ≤ 255 := by have := b.toNat_lt; omega
    have h3 : b.toNat * 256 ^ l.length ≤ 255 * 256 ^ l.length := Nat.mul_le_mul_right _ h2
    omega
theorem pack_append : ∀ l r : List UInt8, pack (l ++ r) = pack l * 256 ^ r.length + pack r
  | [], r => by simp [pack, packL]
  | b :: l, r => by
    rw [List.cons_append, pack_cons, pack_append l r, pack_cons, List.length_append, Nat.pow_add, Nat.add_mul, Nat.mul_assoc]
    omega
theorem pack_inj : ∀ l r : List UInt8, l.length = r.length → pack l = pack r → l = r
  | [], r, h, _ => (List.length_eq_zero_iff.1 h.symm).symm
  | b :: l, [], h, _ => by simp at h
  | b :: l, c :: r, h, hp => by
    simp at h
    rw [pack_cons, pack_cons, h] at hp
    have h1 := pack_lt l
    have h2 := pack_lt r
    rw [h] at h1
    have hb : b.toNat = c.toNat := by
      have e1 : (b.toNat * 256 ^ r.length + pack l) / 256 ^ r.length = b.toNat := by
        rw [Nat.mul_comm, Nat.mul_add_div (Nat.pow_pos (by omega)), Nat.div_eq_of_lt h1]; rfl
      have e2 : (c.toNat * 256 ^ r.length + pack r) / 256 ^ r.length = c.toNat := by
        rw [Nat.mul_comm, Nat.mul_add_div (Nat.pow_pos (by omega)), Nat.div_eq_of_lt h2]; rfl
      rw [← e1, ← e2, hp]
    rw [hb] at hp
    have := pack_inj l r h (by omega)
    rw [this, UInt8.toNat_inj.1 hb]
theorem pack_take (l : List UInt8) (k : Nat) (h : k ≤ l.length) : pack l / 256 ^ (l.length - k) = pack (l.take k) := by
  have e : pack l = pack (l.take k) * 256 ^ (l.length - k) + pack (l.drop k) := by
    have := pack_append (l.take k) (l.drop k)
    rwa [List.take_append_drop, List.length_drop] at this
  have hl := pack_lt (l.drop k)
  rw [List.length_drop] at hl
  rw [e, Nat.mul_comm, Nat.mul_add_div (Nat.pow_pos (by omega)), Nat.div_eq_of_lt hl]; rfl
theorem pow8 (k : Nat) : 2 ^ (8 * k) = 256 ^ k := by rw [Nat.pow_mul]
theorem shr8 (n k : Nat) : Nat.shiftRight n (Nat.mul 8 k) = n / 256 ^ k := by
  show n >>> (8 * k) = _
  rw [Nat.shiftRight_eq_div_pow, pow8]
theorem shl8 (n k : Nat) : Nat.shiftLeft n (Nat.mul 8 k) = n * 256 ^ k := by
  show n <<< (8 * k) = _
  rw [Nat.shiftLeft_eq, pow8]

/-- the number that a list of bytes is -/
def Str.ofL (l : List UInt8) : Str := ⟨l.length, pack l⟩
theorem Str.of_eq (b : ByteArray) : Str.of b = Str.ofL b.data.toList := by
  rfl
theorem Str.at_ofL (l : List UInt8) (i : Nat) (h : i < l.length) : (Str.ofL l).at i = l[i].toNat := by
  show (Nat.shiftRight (pack l) (Nat.mul 8 (l.length - 1 - i))) % 256 = _
  rw [shr8, show l.length - 1 - i = l.length - (i + 1) by omega, pack_take l (i + 1) (by omega), List.take_succ_eq_append_getElem h, pack_append]
  have : pack [l[i]] = l[i].toNat := by rw [pack_cons]; simp [pack, packL]
  rw [this]
  have := l[i].toNat_lt
  simp only [List.length_singleton, Nat.pow_one]; omega
theorem Str.app_ofL (l r : List UInt8) : (Str.ofL l).app (Str.ofL r) = Str.ofL (l ++ r) := by
  show Str.mk (l.length + r.length) (Nat.shiftLeft (pack l) (Nat.mul 8 r.length) + pack r) = _
  rw [shl8, ← pack_append]; simp [Str.ofL]
theorem Str.sub_ofL (l : List UInt8) (a b : Nat) (h1 : a ≤ b) (h2 : b ≤ l.length) : (Str.ofL l).sub a b = Str.ofL ((l.drop a).take (b - a)) := by
  show Str.mk (b - a) ((Nat.shiftRight (pack l) (Nat.mul 8 (l.length - b))) % (Nat.shiftLeft 1 (Nat.mul 8 (b - a)))) = _
  rw [shr8, shl8, pack_take l b h2, Nat.one_mul]
  have e : l.take b = l.take a ++ (l.drop a).take (b - a) := by
    have := List.take_add (l := l) (i := a) (j := b - a)
    rwa [show a + (b - a) = b by omega] at this
  have hlen : ((l.drop a).take (b - a)).length = b - a := by simp; omega
  have hlt := pack_lt ((l.drop a).take (b - a))
  rw [hlen] at hlt
  rw [e, pack_append, hlen, Nat.mul_comm, Nat.mul_add_mod, Nat.mod_eq_of_lt hlt]
  simp [Str.ofL, hlen]
theorem Str.eq_ofL (l r : List UInt8) : (Str.ofL l).eq (Str.ofL r) = (l == r) := by
  show (Nat.beq l.length r.length && Nat.beq (pack l) (pack r)) = _
  rw [Bool.eq_iff_iff, Bool.and_eq_true, Nat.beq_eq, Nat.beq_eq, beq_iff_eq]
  exact ⟨fun ⟨h, h'⟩ => pack_inj l r h h', fun h => by rw [h]; exact ⟨rfl, rfl⟩⟩
theorem Str.push_ofL (l : List UInt8) (b : UInt8) : (Str.ofL l).push b.toNat = Str.ofL (l ++ [b]) := by
  show Str.mk (l.length + 1) (pack l * 256 + b.toNat) = _
  simp [Str.ofL, pack_append, pack_cons]
  simp [pack, packL]

open Go.Op in
theorem bytesLess_pack : ∀ (l r : List UInt8), l.length ≤ r.length →
    (bytesLess l r = true ↔ pack l < pack (r.take l.length) ∨ (pack l = pack (r.take l.length) ∧ l.length < r.length))
  | [], [], _ => by simp [bytesLess, pack, packL]
  | [], b :: r, _ => by simp [bytesLess, pack, packL]
  | a :: l, [], h => by simp at h
  | a :: l, b :: r, h => by
    simp only [List.length_cons, Nat.add_le_add_iff_right] at h
    have ih := bytesLess_pack l r h
    have hl : (r.take l.length).length = l.length := by simp; omega
    simp only [bytesLess, List.length_cons, List.take_succ_cons, pack_cons, hl]
    have h1 := pack_lt l
    have h2 := pack_lt (r.take l.length)
    rw [hl] at h2
    generalize pack l = p at *
    generalize pack (r.take l.length) = q at *
    generalize 256 ^ l.length = m at *
    rcases Nat.lt_trichotomy a.toNat b.toNat with hab | hab | hab
    · have h3 : a.toNat * m + m ≤ b.toNat * m := by
        have := Nat.mul_le_mul_right m (show a.toNat + 1 ≤ b.toNat from hab)
        rwa [Nat.add_mul, Nat.one_mul] at this
      have : a < b := UInt8.lt_iff_toNat_lt.2 hab
      simp [this]; omega
    · have e : a = b := UInt8.toNat_inj.1 hab
      subst e
      simp [ih]
    · have h3 : b.toNat * m + m ≤ a.toNat * m := by
        have := Nat.mul_le_mul_right m (show b.toNat + 1 ≤ a.toNat from hab)
        rwa [Nat.add_mul, Nat.one_mul] at this
      have h4 : ¬ a < b := fun h => by have := UInt8.lt_iff_toNat_lt.1 h; omega
      have h5 : ¬ a = b := fun h => by rw [h] at hab; omega
      simp [h4, h5]; omega
open Go.Op in
theorem bytesLess_pack2 : ∀ (l r : List UInt8), r.length < l.length →
    (bytesLess l r = true ↔ pack (l.take r.length) < pack r)
  | [], r, h => by simp at h
  | a :: l, [], _ => by simp [bytesLess, pack, packL]
  | a :: l, b :: r, h => by
    simp only [List.length_cons, Nat.add_lt_add_iff_right] at h
    have ih := bytesLess_pack2 l r h
    have hl : (l.take r.length).length = r.length := by simp; omega
    simp only [bytesLess, List.length_cons, List.take_succ_cons, pack_cons, hl]
    have h1 := pack_lt r
    have h2 := pack_lt (l.take r.length)
    rw [hl] at h2
    generalize pack (l.take r.length) = p at *
    generalize pack r = q at *
    generalize 256 ^ r.length = m at *
    rcases Nat.lt_trichotomy a.toNat b.toNat with hab | hab | hab
    · have h3 : a.toNat * m + m ≤ b.toNat * m := by
        have := Nat.mul_le_mul_right m (show a.toNat + 1 ≤ b.toNat from hab)
        rwa [Nat.add_mul, Nat.one_mul] at this
      have : a < b := UInt8.lt_iff_toNat_lt.2 hab
      simp [this]; omega
    · have e : a = b := UInt8.toNat_inj.1 hab
      subst e
      simp [ih]
    · have h3 : b.toNat * m + m ≤ a.toNat * m := by
        have := Nat.mul_le_mul_right m (show b.toNat + 1 ≤ a.toNat from hab)
        rwa [Nat.add_mul, Nat.one_mul] at this
      have h4 : ¬ a < b := fun h => by have := UInt8.lt_iff_toNat_lt.1 h; omega
      have h5 : ¬ a = b := fun h => by rw [h] at hab; omega
      simp [h4, h5]; omega
theorem Str.lt_ofL (l r : List UInt8) : (Str.ofL l).lt (Str.ofL r) = Go.Op.bytesLess l r := by
  show (match Nat.ble l.length r.length with
    | true => match Nat.ble (Nat.succ (pack l)) (Nat.shiftRight (pack r) (Nat.mul 8 (r.length - l.length))) with
      | true => true
      | false => and (Nat.beq (pack l) (Nat.shiftRight (pack r) (Nat.mul 8 (r.length - l.length)))) (Nat.ble (Nat.succ l.length) r.length)
    | false => Nat.ble (Nat.succ (Nat.shiftRight (pack l) (Nat.mul 8 (l.length - r.length)))) (pack r)) = _
  cases h : Nat.ble l.length r.length with
  | true =>
    have h' := Nat.le_of_ble_eq_true h
    simp only []
    rw [shr8, pack_take r l.length h', Bool.eq_iff_iff, bytesLess_pack l r h']
    cases h2 : Nat.ble (Nat.succ (pack l)) (pack (r.take l.length)) with
    | true => have := Nat.le_of_ble_eq_true h2; simp; omega
    | false =>
      have h3 : ¬ pack l < pack (r.take l.length) := fun h => by
        have := Nat.ble_eq_true_of_le (show Nat.succ (pack l) ≤ _ from h); rw [this] at h2; cases h2
      simp only [Bool.and_eq_true, Nat.beq_eq, Nat.ble_eq]
      omega
  | false =>
    have h' : ¬ l.length ≤ r.length := fun h2 => by rw [Nat.ble_eq_true_of_le h2] at h; cases h
    simp only []
    rw [shr8, pack_take l r.length (by omega), Bool.eq_iff_iff, bytesLess_pack2 l r (by omega), Nat.ble_eq]
    omega

end Ev
