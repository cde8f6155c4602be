import Derived.Test.YtjmnhilkgjfllaaGreatDoorEvH
set_option linter.unusedVariables false
set_option linter.unusedSimpArgs false
namespace Ev
open Go

theorem at_get (bs : ByteArray) (i : Nat) (h : i < bs.size) : (Str.of bs).at i = (bs.get! i).toNat := by
  have hl : i < bs.data.toList.length := by simpa using h
  rw [Str.of_eq, Str.at_ofL _ _ hl]
  have h2 : i < bs.data.size := by simpa using hl
  show _ = (bs.data[i]!).toNat
  rw [getElem!_pos bs.data i h2]; simp

theorem okRune_eq (c : Nat) : okRune c = Utf8.valid (c : Int) := by
  unfold okRune Utf8.valid
  rw [Bool.eq_iff_iff]
  simp; omega

theorem cont_eq (bs : ByteArray) (i : Nat) : (Str.of bs).cont i = (decide (i < bs.size) && (bs.get! i).toNat / 64 == 2) := by
  unfold Str.cont
  show (and (Nat.ble (Nat.succ i) bs.size) (Nat.beq (Nat.div ((Str.of bs).at i) 64) 2)) = _
  by_cases h : i < bs.size
  · rw [Nat.ble_eq_true_of_le (show Nat.succ i ≤ _ from h), at_get _ _ h]
    simp only [h, decide_true, Bool.true_and]
    rw [Bool.eq_iff_iff, Nat.beq_eq, beq_iff_eq]
    exact Iff.rfl
  · have : Nat.ble (Nat.succ i) bs.size = false := by
      cases e : Nat.ble (Nat.succ i) bs.size with
      | false => rfl
      | true => exact absurd (Nat.le_of_ble_eq_true e) h
    rw [this]; simp [h]

def decN (b0 b1 b2 b3 : Nat) (k1 k2 k3 : Bool) : Nat × Nat :=
  bif Nat.ble (Nat.succ b0) 128 then (b0, 1) else
  bif and (Nat.beq (Nat.div b0 32) 6) k1 then dec2 ((b0 % 32) * 64 + b1 % 64) else
  bif and (and (Nat.beq (Nat.div b0 16) 14) k1) k2 then dec3 ((b0 % 16) * 4096 + (b1 % 64) * 64 + b2 % 64) else
  bif and (and (and (Nat.beq (Nat.div b0 8) 30) k1) k2) k3 then dec4 ((b0 % 8) * 262144 + (b1 % 64) * 4096 + (b2 % 64) * 64 + b3 % 64)
  else (65533, 1)
def decM (b0 b1 b2 b3 : Nat) (k1 k2 k3 : Bool) : Nat × Nat :=
  if b0 < 0x80 then (b0, 1)
  else if b0 / 32 == 6 && k1 then
    if (b0 % 32) * 64 + b1 % 64 ≥ 0x80 then ((b0 % 32) * 64 + b1 % 64, 2) else (Utf8.runeError, 1)
  else if b0 / 16 == 14 && k1 && k2 then
    if ((b0 % 16) * 4096 + (b1 % 64) * 64 + b2 % 64 ≥ 0x800 && Utf8.valid (((b0 % 16) * 4096 + (b1 % 64) * 64 + b2 % 64 : Nat) : Int)) = true then ((b0 % 16) * 4096 + (b1 % 64) * 64 + b2 % 64, 3) else (Utf8.runeError, 1)
  else if b0 / 8 == 30 && k1 && k2 && k3 then
    if ((b0 % 8) * 262144 + (b1 % 64) * 4096 + (b2 % 64) * 64 + b3 % 64 ≥ 0x10000 && Utf8.valid (((b0 % 8) * 262144 + (b1 % 64) * 4096 + (b2 % 64) * 64 + b3 % 64 : Nat) : Int)) = true then ((b0 % 8) * 262144 + (b1 % 64) * 4096 + (b2 % 64) * 64 + b3 % 64, 4) else (Utf8.runeError, 1)
  else (Utf8.runeError, 1)
theorem dec2_eq (c : Nat) : dec2 c = if c ≥ 0x80 then (c, 2) else (Utf8.runeError, 1) := by
  unfold dec2
  cases h : Nat.ble 128 c with
  | true => rw [if_pos (Nat.le_of_ble_eq_true h)]; rfl
  | false => rw [if_neg (fun h2 => by rw [Nat.ble_eq_true_of_le h2] at h; cases h)]; rfl
theorem dec3_eq (c : Nat) : dec3 c = if (decide (c ≥ 0x800) && Utf8.valid (c : Int)) = true then (c, 3) else (Utf8.runeError, 1) := by
  unfold dec3
  rw [okRune_eq]
  cases h : Nat.ble 2048 c with
  | true => rw [decide_eq_true (Nat.le_of_ble_eq_true h)]; cases Utf8.valid (c : Int) <;> rfl
  | false => rw [decide_eq_false (fun h2 => by rw [Nat.ble_eq_true_of_le h2] at h; cases h)]; rfl
theorem dec4_eq (c : Nat) : dec4 c = if (decide (c ≥ 0x10000) && Utf8.valid (c : Int)) = true then (c, 4) else (Utf8.runeError, 1) := by
  unfold dec4
  rw [okRune_eq]
  cases h : Nat.ble 65536 c with
  | true => rw [decide_eq_true (Nat.le_of_ble_eq_true h)]; cases Utf8.valid (c : Int) <;> rfl
  | false => rw [decide_eq_false (fun h2 => by rw [Nat.ble_eq_true_of_le h2] at h; cases h)]; rfl
theorem bif_if {α : Type} (b c : Bool) (x y : α) (h : b = c) : (bif b then x else y) = if c = true then x else y := by subst h; cases b <;> rfl
theorem beq_nat (a b : Nat) : Nat.beq a b = (a == b) := by rw [Bool.eq_iff_iff, Nat.beq_eq, beq_iff_eq]
theorem decN_eq (b0 b1 b2 b3 : Nat) (k1 k2 k3 : Bool) : decN b0 b1 b2 b3 k1 k2 k3 = decM b0 b1 b2 b3 k1 k2 k3 := by
  unfold decN decM
  by_cases h : b0 < 128
  · rw [if_pos h, Nat.ble_eq_true_of_le (show Nat.succ b0 ≤ 128 from h)]; rfl
  · have hf : Nat.ble (Nat.succ b0) 128 = false := by
      cases e : Nat.ble (Nat.succ b0) 128 with
      | false => rfl
      | true => exact absurd (Nat.le_of_ble_eq_true e) h
    rw [if_neg h, hf, cond_false, beq_nat, beq_nat, beq_nat, dec2_eq, dec3_eq, dec4_eq]
    rw [bif_if _ _ _ _ rfl, bif_if _ _ _ _ rfl, bif_if _ _ _ _ rfl]
    rfl
theorem dec_eq (bs : ByteArray) (i : Nat) (h : i < bs.size) : dec (Str.of bs) i = Utf8.decode bs i := by
  have e1 : dec (Str.of bs) i = decN ((Str.of bs).at i) ((Str.of bs).at (i + 1)) ((Str.of bs).at (i + 2)) ((Str.of bs).at (i + 3)) ((Str.of bs).cont (i + 1)) ((Str.of bs).cont (i + 2)) ((Str.of bs).cont (i + 3)) := rfl
  have e2 : Utf8.decode bs i = decM (bs.get! (i + 0)).toNat (bs.get! (i + 1)).toNat (bs.get! (i + 2)).toNat (bs.get! (i + 3)).toNat
      (decide (i + 1 < bs.size) && (bs.get! (i + 1)).toNat / 64 == 2) (decide (i + 2 < bs.size) && (bs.get! (i + 2)).toNat / 64 == 2) (decide (i + 3 < bs.size) && (bs.get! (i + 3)).toNat / 64 == 2) := rfl
  rw [e1, e2, decN_eq, ← cont_eq, ← cont_eq, ← cont_eq, at_get _ _ h]
  have hk : ∀ j, (Str.of bs).cont j = true → (Str.of bs).at j = (bs.get! j).toNat := by
    intro j hj
    rw [cont_eq, Bool.and_eq_true, decide_eq_true_eq] at hj
    exact at_get _ _ hj.1
  show decM (bs.get! i).toNat _ _ _ _ _ _ = decM (bs.get! i).toNat _ _ _ _ _ _
  generalize (bs.get! i).toNat = b0
  cases h1 : (Str.of bs).cont (i + 1) with
  | false => unfold decM; simp only [Bool.and_false, Bool.false_and, Bool.false_eq_true, if_false]
  | true =>
    rw [hk _ h1]
    cases h2 : (Str.of bs).cont (i + 2) with
    | false => unfold decM; simp only [Bool.and_false, Bool.false_and, Bool.false_eq_true, if_false]
    | true =>
      rw [hk _ h2]
      cases h3 : (Str.of bs).cont (i + 3) with
      | false => unfold decM; simp only [Bool.and_false, Bool.false_eq_true, if_false]
      | true => rw [hk _ h3]

theorem of_lit (l : List UInt8) : Str.of ⟨l.toArray⟩ = Str.ofL l := by rw [Str.of_eq]

theorem encN_eq (c : Nat) (hc : c ≤ 1114111) : encN c = Str.of (let b (n : Nat) : UInt8 := UInt8.ofNat n
  if c < 0x80 then ⟨#[b c]⟩
  else if c < 0x800 then ⟨#[b (0xC0 + c / 64), b (0x80 + c % 64)]⟩
  else if c < 0x10000 then ⟨#[b (0xE0 + c / 4096), b (0x80 + c / 64 % 64), b (0x80 + c % 64)]⟩
  else ⟨#[b (0xF0 + c / 262144), b (0x80 + c / 4096 % 64), b (0x80 + c / 64 % 64), b (0x80 + c % 64)]⟩) := by
  have hb : ∀ a b : Nat, Nat.ble (Nat.succ a) b = decide (a < b) := fun a b => by rw [Bool.eq_iff_iff, Nat.ble_eq, decide_eq_true_eq]; exact Iff.rfl
  unfold encN
  simp only [hb]
  by_cases h1 : c < 128
  · simp only [h1, decide_true, cond_true, if_true]
    show _ = Str.mk 1 (Nat.add (Nat.mul 0 256) (UInt8.ofNat c).toNat)
    simp [UInt8.toNat_ofNat']; omega
  · by_cases h2 : c < 2048
    · simp only [h1, h2, decide_true, decide_false, cond_true, cond_false, if_true, if_false]
      show _ = Str.mk 2 (((0 * 256 + (UInt8.ofNat (192 + c / 64)).toNat)) * 256 + (UInt8.ofNat (128 + c % 64)).toNat)
      simp [UInt8.toNat_ofNat']; omega
    · by_cases h3 : c < 65536
      · simp only [h1, h2, h3, decide_true, decide_false, cond_true, cond_false, if_true, if_false]
        show _ = Str.mk 3 ((((0 * 256 + (UInt8.ofNat (224 + c / 4096)).toNat)) * 256 + (UInt8.ofNat (128 + c / 64 % 64)).toNat) * 256 + (UInt8.ofNat (128 + c % 64)).toNat)
        simp [UInt8.toNat_ofNat']; omega
      · simp only [h1, h2, h3, decide_false, cond_false, if_false]
        show _ = Str.mk 4 ((((((0 * 256 + (UInt8.ofNat (240 + c / 262144)).toNat)) * 256 + (UInt8.ofNat (128 + c / 4096 % 64)).toNat)) * 256 + (UInt8.ofNat (128 + c / 64 % 64)).toNat) * 256 + (UInt8.ofNat (128 + c % 64)).toNat)
        simp [UInt8.toNat_ofNat']; omega

theorem enc_eq (r : Int) : enc r = Str.of (Utf8.encode r) := by
  have hv : ∀ c : Nat, Utf8.valid (c : Int) = true → c ≤ 1114111 := by intro c h; simp [Utf8.valid] at h; omega
  cases r with
  | ofNat c =>
    show encN (bif okRune c then c else 65533) = _
    rw [okRune_eq]
    unfold Utf8.encode
    simp only [Int.ofNat_eq_natCast, Int.toNat_natCast, Utf8.runeError]
    cases h : Utf8.valid (c : Int) with
    | true => simp only [cond_true, if_true]; exact encN_eq c (hv c h)
    | false => simp only [cond_false, Bool.false_eq_true, if_false]; exact encN_eq 65533 (by omega)
  | negSucc c =>
    show encN 65533 = _
    unfold Utf8.encode
    have h : Utf8.valid (Int.negSucc c) = false := by
      unfold Utf8.valid
      simp only [Bool.or_eq_false_iff, Bool.and_eq_false_iff, decide_eq_false_iff_not]
      constructor
      · left; omega
      · left; omega
    simp only [h, Bool.false_eq_true, if_false, Utf8.runeError]
    exact encN_eq 65533 (by omega)

theorem strOfBytes_ok {ρ : Mp} : ∀ (l : List C) (vs : List Value) (acc : ByteArray) (z : Str), LRel ρ l vs → strOfBytes l (Str.of acc) = some z →
    ∃ bs : List UInt8, vs = bs.map (fun b => Value.int .u8 (b.toNat : Int)) ∧ z = Str.of ⟨acc.data ++ bs.toArray⟩ := by
  intro l
  induction l with
  | nil => intro vs acc z h hz; cases h; simp only [strOfBytes, Option.some.injEq] at hz; exact ⟨[], rfl, by rw [← hz]; simp⟩
  | cons c l ih =>
    intro vs acc z h hz
    cases h with
    | cons h1 h2 =>
      rename_i v vs
      cases c <;> try (simp only [strOfBytes] at hz; cases hz; done)
      rename_i k n
      cases k <;> try (simp only [strOfBytes] at hz; cases hz; done)
      cases n with
      | negSucc n => simp only [strOfBytes] at hz; cases hz
      | ofNat n =>
        simp only [strOfBytes] at hz
        cases hb : Nat.ble (Nat.succ n) 256 with
        | false => rw [hb] at hz; cases hz
        | true =>
          rw [hb] at hz
          simp only [] at hz
          have hn := Nat.le_of_ble_eq_true hb
          have hn' : (UInt8.ofNat n).toNat = n := by simp [UInt8.toNat_ofNat']; omega
          have hp : (Str.of acc).push n = Str.of ⟨acc.data ++ #[UInt8.ofNat n]⟩ := by
            have := Str.push_ofL acc.data.toList (UInt8.ofNat n)
            rw [hn'] at this
            rw [Str.of_eq, Str.of_eq, this]; simp
          rw [hp] at hz
          obtain ⟨bs, g1, g2⟩ := ih vs _ z h2 hz
          refine ⟨UInt8.ofNat n :: bs, ?_, ?_⟩
          · rw [List.map_cons, hn', ← g1]; congr 1
          · rw [g2]; simp

theorem strOfRunes_ok {ρ : Mp} : ∀ (l : List C) (vs : List Value) (acc : ByteArray) (z : Str), LRel ρ l vs → strOfRunes l (Str.of acc) = some z →
    ∃ rs : List Int, vs = rs.map (fun r => Value.int .i32 r) ∧ z = Str.of (rs.foldl (fun s r => s ++ Utf8.encode r) acc) := by
  intro l
  induction l with
  | nil => intro vs acc z h hz; cases h; simp only [strOfRunes, Option.some.injEq] at hz; exact ⟨[], rfl, by rw [← hz]; rfl⟩
  | cons c l ih =>
    intro vs acc z h hz
    cases h with
    | cons h1 h2 =>
      rename_i v vs
      cases c <;> try (simp only [strOfRunes] at hz; cases hz; done)
      rename_i k n
      cases k <;> try (simp only [strOfRunes] at hz; cases hz; done)
      simp only [strOfRunes] at hz
      rw [enc_eq, str_app] at hz
      obtain ⟨rs, g1, g2⟩ := ih vs _ z h2 hz
      refine ⟨n :: rs, ?_, by rw [g2]; rfl⟩
      rw [List.map_cons, ← g1]; congr 1

end Ev
