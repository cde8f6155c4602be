import Derived.Test.YtnjfcaphpemihaaGreatDoorEwA
import Derived.Laws.StructEq
import Derived.Laws.Tables
import Derived.MapKept
import Derived.Laws.BytesString
import Derived.Laws.Cover4
set_option linter.unusedVariables false
set_option linter.unusedSimpArgs false
namespace Ev
open Go

theorem at_get (bs : ByteArray) (i : Nat) (h : i < bs.size) : (Str.of bs).at i = (bs.get! i).toNat := by
  have hl : i < bs.data.toList.length := by simpa using h
  rw [Str.of_eq, Str.at_ofL _ _ hl]
  have h2 : i < bs.data.size := by simpa using hl
  show _ = (bs.data[i]!).toNat
  rw [getElem!_pos bs.data i h2]; simp

theorem okRune_eq (c : Nat) : okRune c = Utf8.valid (c : Int) := by
  unfold okRune Utf8.valid
  rw [Bool.eq_iff_iff]
  simp; omega

theorem cont_eq (bs : ByteArray) (i : Nat) : (Str.of bs).cont i = (decide (i < bs.size) && (bs.get! i).toNat / 64 == 2) := by
  unfold Str.cont
  show (and (Nat.ble (Nat.succ i) bs.size) (Nat.beq (Nat.div ((Str.of bs).at i) 64) 2)) = _
  by_cases h : i < bs.size
  · rw [Nat.ble_eq_true_of_le (show Nat.succ i ≤ _ from h), at_get _ _ h]
    simp only [h, decide_true, Bool.true_and]
    rw [Bool.eq_iff_iff, Nat.beq_eq, beq_iff_eq]
    exact Iff.rfl
  · have : Nat.ble (Nat.succ i) bs.size = false := by
      cases e : Nat.ble (Nat.succ i) bs.size with
      | false => rfl
      | true => exact absurd (Nat.le_of_ble_eq_true e) h
    rw [this]; simp [h]

def decN (b0 b1 b2 b3 : Nat) (k1 k2 k3 : Bool) : Nat × Nat :=
  bif Nat.ble (Nat.succ b0) 128 then (b0, 1) else
  bif and (Nat.beq (Nat.div b0 32) 6) k1 then dec2 ((b0 % 32) * 64 + b1 % 64) else
  bif and (and (Nat.beq (Nat.div b0 16) 14) k1) k2 then dec3 ((b0 % 16) * 4096 + (b1 % 64) * 64 + b2 % 64) else
  bif and (and (and (Nat.beq (Nat.div b0 8) 30) k1) k2) k3 then dec4 ((b0 % 8) * 262144 + (b1 % 64) * 4096 + (b2 % 64) * 64 + b3 % 64)
  else (65533, 1)
def decM (b0 b1 b2 b3 : Nat) (k1 k2 k3 : Bool) : Nat × Nat :=
  if b0 < 0x80 then (b0, 1)
  else if b0 / 32 == 6 && k1 then
    if (b0 % 32) * 64 + b1 % 64 ≥ 0x80 then ((b0 % 32) * 64 + b1 % 64, 2) else (Utf8.runeError, 1)
  else if b0 / 16 == 14 && k1 && k2 then
    if ((b0 % 16) * 4096 + (b1 % 64) * 64 + b2 % 64 ≥ 0x800 && Utf8.valid (((b0 % 16) * 4096 + (b1 % 64) * 64 + b2 % 64 : Nat) : Int)) = true then ((b0 % 16) * 4096 + (b1 % 64) * 64 + b2 % 64, 3) else (Utf8.runeError, 1)
  else if b0 / 8 == 30 && k1 && k2 && k3 then
    if ((b0 % 8) * 262144 + (b1 % 64) * 4096 + (b2 % 64) * 64 + b3 % 64 ≥ 0x10000 && Utf8.valid (((b0 % 8) * 262144 + (b1 % 64) * 4096 + (b2 % 64) * 64 + b3 % 64 : Nat) : Int)) = true then ((b0 % 8) * 262144 + (b1 % 64) * 4096 + (b2 % 64) * 64 + b3 % 64, 4) else (Utf8.runeError, 1)
  else (Utf8.runeError, 1)
theorem dec2_eq (c : Nat) : dec2 c = if c ≥ 0x80 then (c, 2) else (Utf8.runeError, 1) := by
  unfold dec2
  cases h : Nat.ble 128 c with
  | true => rw [if_pos (Nat.le_of_ble_eq_true h)]; rfl
  | false => rw [if_neg (fun h2 => by rw [Nat.ble_eq_true_of_le h2] at h; cases h)]; rfl
theorem dec3_eq (c : Nat) : dec3 c = if (decide (c ≥ 0x800) && Utf8.valid (c : Int)) = true then (c, 3) else (Utf8.runeError, 1) := by
  unfold dec3
  rw [okRune_eq]
  cases h : Nat.ble 2048 c with
  | true => rw [decide_eq_true (Nat.le_of_ble_eq_true h)]; cases Utf8.valid (c : Int) <;> rfl
  | false => rw [decide_eq_false (fun h2 => by rw [Nat.ble_eq_true_of_le h2] at h; cases h)]; rfl
theorem dec4_eq (c : Nat) : dec4 c = if (decide (c ≥ 0x10000) && Utf8.valid (c : Int)) = true then (c, 4) else (Utf8.runeError, 1) := by
  unfold dec4
  rw [okRune_eq]
  cases h : Nat.ble 65536 c with
  | true => rw [decide_eq_true (Nat.le_of_ble_eq_true h)]; cases Utf8.valid (c : Int) <;> rfl
  | false => rw [decide_eq_false (fun h2 => by rw [Nat.ble_eq_true_of_le h2] at h; cases h)]; rfl
theorem bif_if {α : Type} (b c : Bool) (x y : α) (h : b = c) : (bif b then x else y) = if c = true then x else y := by subst h; cases b <;> rfl
theorem beq_nat (a b : Nat) : Nat.beq a b = (a == b) := by rw [Bool.eq_iff_iff, Nat.beq_eq, beq_iff_eq]
theorem decN_eq (b0 b1 b2 b3 : Nat) (k1 k2 k3 : Bool) : decN b0 b1 b2 b3 k1 k2 k3 = decM b0 b1 b2 b3 k1 k2 k3 := by
  unfold decN decM
  by_cases h : b0 < 128
  · rw [if_pos h, Nat.ble_eq_true_of_le (show Nat.succ b0 ≤ 128 from h)]; rfl
  · have hf : Nat.ble (Nat.succ b0) 128 = false := by
      cases e : Nat.ble (Nat.succ b0) 128 with
      | false => rfl
      | true => exact absurd (Nat.le_of_ble_eq_true e) h
    rw [if_neg h, hf, cond_false, beq_nat, beq_nat, beq_nat, dec2_eq, dec3_eq, dec4_eq]
    rw [bif_if _ _ _ _ rfl, bif_if _ _ _ _ rfl, bif_if _ _ _ _ rfl]
    rfl
theorem dec_eq (bs : ByteArray) (i : Nat) (h : i < bs.size) : dec (Str.of bs) i = Utf8.decode bs i := by
  have e1 : dec (Str.of bs) i = decN ((Str.of bs).at i) ((Str.of bs).at (i + 1)) ((Str.of bs).at (i + 2)) ((Str.of bs).at (i + 3)) ((Str.of bs).cont (i + 1)) ((Str.of bs).cont (i + 2)) ((Str.of bs).cont (i + 3)) := rfl
  have e2 : Utf8.decode bs i = decM (bs.get! (i + 0)).toNat (bs.get! (i + 1)).toNat (bs.get! (i + 2)).toNat (bs.get! (i + 3)).toNat
      (decide (i + 1 < bs.size) && (bs.get! (i + 1)).toNat / 64 == 2) (decide (i + 2 < bs.size) && (bs.get! (i + 2)).toNat / 64 == 2) (decide (i + 3 < bs.size) && (bs.get! (i + 3)).toNat / 64 == 2) := rfl
  rw [e1, e2, decN_eq, ← cont_eq, ← cont_eq, ← cont_eq, at_get _ _ h]
  have hk : ∀ j, (Str.of bs).cont j = true → (Str.of bs).at j = (bs.get! j).toNat := by
    intro j hj
    rw [cont_eq, Bool.and_eq_true, decide_eq_true_eq] at hj
    exact at_get _ _ hj.1
  show decM (bs.get! i).toNat _ _ _ _ _ _ = decM (bs.get! i).toNat _ _ _ _ _ _
  generalize (bs.get! i).toNat = b0
  cases h1 : (Str.of bs).cont (i + 1) with
  | false => unfold decM; simp only [Bool.and_false, Bool.false_and, Bool.false_eq_true, if_false]
  | true =>
    rw [hk _ h1]
    cases h2 : (Str.of bs).cont (i + 2) with
    | false => unfold decM; simp only [Bool.and_false, Bool.false_and, Bool.false_eq_true, if_false]
    | true =>
      rw [hk _ h2]
      cases h3 : (Str.of bs).cont (i + 3) with
      | false => unfold decM; simp only [Bool.and_false, Bool.false_eq_true, if_false]
      | true => rw [hk _ h3]

theorem of_lit (l : List UInt8) : Str.of ⟨l.toArray⟩ = Str.ofL l := by rw [Str.of_eq]

theorem encN_eq (c : Nat) (hc : c ≤ 1114111) : encN c = Str.of (let b (n : Nat) : UInt8 := UInt8.ofNat n
  if c < 0x80 then ⟨#[b c]⟩
  else if c < 0x800 then ⟨#[b (0xC0 + c / 64), b (0x80 + c % 64)]⟩
  else if c < 0x10000 then ⟨#[b (0xE0 + c / 4096), b (0x80 + c / 64 % 64), b (0x80 + c % 64)]⟩
  else ⟨#[b (0xF0 + c / 262144), b (0x80 + c / 4096 % 64), b (0x80 + c / 64 % 64), b (0x80 + c % 64)]⟩) := by
  have hb : ∀ a b : Nat, Nat.ble (Nat.succ a) b = decide (a < b) := fun a b => by rw [Bool.eq_iff_iff, Nat.ble_eq, decide_eq_true_eq]; exact Iff.rfl
  unfold encN
  simp only [hb]
  by_cases h1 : c < 128
  · simp only [h1, decide_true, cond_true, if_true]
    show _ = Str.mk 1 (Nat.add (Nat.mul 0 256) (UInt8.ofNat c).toNat)
    simp [UInt8.toNat_ofNat']; omega
  · by_cases h2 : c < 2048
    · simp only [h1, h2, decide_true, decide_false, cond_true, cond_false, if_true, if_false]
      show _ = Str.mk 2 (((0 * 256 + (UInt8.ofNat (192 + c / 64)).toNat)) * 256 + (UInt8.ofNat (128 + c % 64)).toNat)
      simp [UInt8.toNat_ofNat']; omega
    · by_cases h3 : c < 65536
      · simp only [h1, h2, h3, decide_true, decide_false, cond_true, cond_false, if_true, if_false]
        show _ = Str.mk 3 ((((0 * 256 + (UInt8.ofNat (224 + c / 4096)).toNat)) * 256 + (UInt8.ofNat (128 + c / 64 % 64)).toNat) * 256 + (UInt8.ofNat (128 + c % 64)).toNat)
        simp [UInt8.toNat_ofNat']; omega
      · simp only [h1, h2, h3, decide_false, cond_false, if_false]
        show _ = Str.mk 4 ((((((0 * 256 + (UInt8.ofNat (240 + c / 262144)).toNat)) * 256 + (UInt8.ofNat (128 + c / 4096 % 64)).toNat)) * 256 + (UInt8.ofNat (128 + c / 64 % 64)).toNat) * 256 + (UInt8.ofNat (128 + c % 64)).toNat)
        simp [UInt8.toNat_ofNat']; omega

theorem enc_eq (r : Int) : enc r = Str.of (Utf8.encode r) := by
  have hv : ∀ c : Nat, Utf8.valid (c : Int) = true → c ≤ 1114111 := by intro c h; simp [Utf8.valid] at h; omega
  cases r with
  | ofNat c =>
    show encN (bif okRune c then c else 65533) = _
    rw [okRune_eq]
    unfold Utf8.encode
    simp only [Int.ofNat_eq_natCast, Int.toNat_natCast, Utf8.runeError]
    cases h : Utf8.valid (c : Int) with
    | true => simp only [cond_true, if_true]; exact encN_eq c (hv c h)
    | false => simp only [cond_false, Bool.false_eq_true, if_false]; exact encN_eq 65533 (by omega)
  | negSucc c =>
    show encN 65533 = _
    unfold Utf8.encode
    have h : Utf8.valid (Int.negSucc c) = false := by
      unfold Utf8.valid
      simp only [Bool.or_eq_false_iff, Bool.and_eq_false_iff, decide_eq_false_iff_not]
      constructor
      · left; omega
      · left; omega
    simp only [h, Bool.false_eq_true, if_false, Utf8.runeError]
    exact encN_eq 65533 (by omega)

theorem strOfBytes_ok {ρ : Mp} : ∀ (l : List C) (vs : List Value) (acc : ByteArray) (z : Str), LRel ρ l vs → strOfBytes l (Str.of acc) = some z →
    ∃ bs : List UInt8, vs = bs.map (fun b => Value.int .u8 (b.toNat : Int)) ∧ z = Str.of ⟨acc.data ++ bs.toArray⟩ := by
  intro l
  induction l with
  | nil => intro vs acc z h hz; cases h; simp only [strOfBytes, Option.some.injEq] at hz; exact ⟨[], rfl, by rw [← hz]; simp⟩
  | cons c l ih =>
    intro vs acc z h hz
    cases h with
    | cons h1 h2 =>
      rename_i v vs
      cases c <;> try (simp only [strOfBytes] at hz; cases hz; done)
      rename_i k n
      cases k <;> try (simp only [strOfBytes] at hz; cases hz; done)
      cases n with
      | negSucc n => simp only [strOfBytes] at hz; cases hz
      | ofNat n =>
        simp only [strOfBytes] at hz
        cases hb : Nat.ble (Nat.succ n) 256 with
        | false => rw [hb] at hz; cases hz
        | true =>
          rw [hb] at hz
          simp only [] at hz
          have hn := Nat.le_of_ble_eq_true hb
          have hn' : (UInt8.ofNat n).toNat = n := by simp [UInt8.toNat_ofNat']; omega
          have hp : (Str.of acc).push n = Str.of ⟨acc.data ++ #[UInt8.ofNat n]⟩ := by
            have := Str.push_ofL acc.data.toList (UInt8.ofNat n)
            rw [hn'] at this
            rw [Str.of_eq, Str.of_eq, this]; simp
          rw [hp] at hz
          obtain ⟨bs, g1, g2⟩ := ih vs _ z h2 hz
          refine ⟨UInt8.ofNat n :: bs, ?_, ?_⟩
          · rw [List.map_cons, hn', ← g1]; congr 1
          · rw [g2]; simp

theorem strOfRunes_ok {ρ : Mp} : ∀ (l : List C) (vs : List Value) (acc : ByteArray) (z : Str), LRel ρ l vs → strOfRunes l (Str.of acc) = some z →
    ∃ rs : List Int, vs = rs.map (fun r => Value.int .i32 r) ∧ z = Str.of (rs.foldl (fun s r => s ++ Utf8.encode r) acc) := by
  intro l
  induction l with
  | nil => intro vs acc z h hz; cases h; simp only [strOfRunes, Option.some.injEq] at hz; exact ⟨[], rfl, by rw [← hz]; rfl⟩
  | cons c l ih =>
    intro vs acc z h hz
    cases h with
    | cons h1 h2 =>
      rename_i v vs
      cases c <;> try (simp only [strOfRunes] at hz; cases hz; done)
      rename_i k n
      cases k <;> try (simp only [strOfRunes] at hz; cases hz; done)
      simp only [strOfRunes] at hz
      rw [enc_eq, str_app] at hz
      obtain ⟨rs, g1, g2⟩ := ih vs _ z h2 hz
      refine ⟨n :: rs, ?_, by rw [g2]; rfl⟩
      rw [List.map_cons, ← g1]; congr 1

end Ev

set_option linter.unusedVariables false
set_option linter.unusedSimpArgs false
set_option maxHeartbeats 1000000
namespace Ev
open Go

section
variable {P : Program} {w : World} {E : Env} {ρ : Mp} {a : A} {e : Operand → Value} {x y : Operand}

theorem eqPlain_ok {t : TypeId} {d : TypeDesc} (ht : P.underlying t = some d) {c c' : C} {u v : Value} (hc : CRel ρ c u) (hd : CRel ρ c' v) {b : Bool} (h : eqPlain d c c' = some b) (n : Nat) :
    (Op.equalIn (n + 1) t u v).run P w = .ok b w := by
  cases d <;> simp only [eqPlain] at h <;> try (cases h; done)
  case bool =>
    cases c <;> simp only [] at h <;> try (cases h; done)
    cases c' <;> simp only [] at h <;> try (cases h; done)
    cases h; cases hc; cases hd
    simp [Op.equalIn, run_und ht]
  case int k0 =>
    cases c <;> simp only [] at h <;> try (cases h; done)
    cases c' <;> simp only [] at h <;> try (cases h; done)
    rename_i k m k' m'
    cases hk : kEq k k' with
    | false => rw [hk] at h; cases h
    | true =>
      rw [hk] at h; cases h; cases hc; cases hd
      have := (kEq_iff k k').1 hk
      subst this
      simp [Op.equalIn, run_und ht, iEq_eq]
      rw [Bool.eq_iff_iff]; simp
  case string =>
    cases c <;> simp only [] at h <;> try (cases h; done)
    cases c' <;> simp only [] at h <;> try (cases h; done)
    obtain ⟨s, rfl, rfl⟩ := hc
    obtain ⟨r, rfl, rfl⟩ := hd
    simp only [Option.some.injEq] at h
    subst h
    rw [str_eq]
    exact run_equalIn_string w n t s r ht

theorem part_one {t : TypeId} {d : TypeDesc} (ht : P.underlying t = some d) (hp : isAggT d = false) (cs : Array Value) (o : Nat) (v : Value) (hv : cs[o]? = some v) : (part t cs o).run P w = .ok v w := by
  unfold part
  simp [run_agg ht, hp, hv]

theorem plainD_agg {d : TypeDesc} (h : plainD d = true) : isAggT d = false := by cases d <;> first | rfl | (simp [plainD] at h)

theorem plainFields_cons {f : Field} {fs : List Field} {o : Nat} {ds : List TypeDesc} (h : plainFields E (f :: fs) o = some ds) :
    ∃ d ds', ds = d :: ds' ∧ undT E f.type = some d ∧ plainD d = true ∧ f.offset = o ∧ f.name ≠ "_" ∧ plainFields E fs (o + 1) = some ds' := by
  simp only [plainFields] at h
  cases hu : undT E f.type with
  | none => rw [hu] at h; cases h
  | some d =>
    rw [hu] at h
    simp only [] at h
    cases hb : and (and (plainD d) (Nat.beq f.offset o)) (f.name != "_") with
    | false => rw [hb] at h; cases h
    | true =>
      rw [hb] at h
      simp only [] at h
      simp only [Bool.and_eq_true, Nat.beq_eq, bne_iff_ne] at hb
      obtain ⟨⟨h1, h2⟩, h3⟩ := hb
      cases hr : plainFields E fs (Nat.succ o) with
      | none => rw [hr] at h; cases h
      | some ds' =>
        rw [hr] at h
        cases h
        exact ⟨d, ds', rfl, rfl, h1, h2, h3, by first | exact hr | rfl⟩

theorem eqDs_ok (hE : EnvOk E P) (k : Nat) (xs ys : Array Value) : ∀ (fs : List Field) (ds : List TypeDesc) (o : Nat) (l r : List C) (b : Bool), plainFields E fs o = some ds → eqDs ds l r = some b →
    LRel ρ l (xs.toList.drop o) → LRel ρ r (ys.toList.drop o) → (Op.eqFields (k + 1) xs ys fs).run P w = .ok b w := by
  intro fs
  induction fs with
  | nil =>
    intro ds o l r b h1 h2 _ _
    simp only [plainFields, Option.some.injEq] at h1
    subst h1
    cases l <;> cases r <;> simp [eqDs] at h2
    subst h2; rfl
  | cons f fs ih =>
    intro ds o l r b h1 h2 hl hr
    obtain ⟨d, ds', rfl, hu, hpl, rfl, hn, hrest⟩ := plainFields_cons h1
    have ht := (undT_some hE hu).1
    cases l with
    | nil => simp [eqDs] at h2
    | cons c l =>
      cases r with
      | nil => simp [eqDs] at h2
      | cons c' r =>
        have hx : ∃ u us, xs.toList.drop f.offset = u :: us ∧ CRel ρ c u ∧ LRel ρ l us := by
          generalize xs.toList.drop f.offset = q at hl; cases hl; exact ⟨_, _, rfl, ‹_›, ‹_›⟩
        have hy : ∃ u us, ys.toList.drop f.offset = u :: us ∧ CRel ρ c' u ∧ LRel ρ r us := by
          generalize ys.toList.drop f.offset = q at hr; cases hr; exact ⟨_, _, rfl, ‹_›, ‹_›⟩
        obtain ⟨u, us, hx1, hx2, hx3⟩ := hx
        obtain ⟨v, vs, hy1, hy2, hy3⟩ := hy
        have gx : xs[f.offset]? = some u := by
          have := congrArg (fun q => q[0]?) hx1
          simp only [List.getElem?_drop] at this; simpa using this
        have gy : ys[f.offset]? = some v := by
          have := congrArg (fun q => q[0]?) hy1
          simp only [List.getElem?_drop] at this; simpa using this
        have dx : xs.toList.drop (f.offset + 1) = us := by rw [← List.drop_drop, hx1]; rfl
        have dy : ys.toList.drop (f.offset + 1) = vs := by rw [← List.drop_drop, hy1]; rfl
        simp only [eqDs] at h2
        unfold Op.eqFields
        rw [if_pos hn]
        simp only [Sem.run_bind, part_one ht (plainD_agg hpl) _ _ _ gx, part_one ht (plainD_agg hpl) _ _ _ gy, Result.andThen_ok]
        cases he : eqPlain d c c' with
        | none => rw [he] at h2; cases h2
        | some b1 =>
          rw [he] at h2
          rw [eqPlain_ok ht hx2 hy2 he k]
          cases b1 with
          | false => simp only [Option.some.injEq] at h2; subst h2; rfl
          | true =>
            simp only [] at h2
            simp only [Result.andThen_ok, Bool.not_true, Bool.false_eq_true, if_false]
            exact ih ds' (f.offset + 1) l r b hrest h2 (by rw [dx]; exact hx3) (by rw [dy]; exact hy3)

theorem guard_plain {t : TypeId} {d : TypeDesc} (ht : P.underlying t = some d) (hp : plainD d = true) (n : Nat) : P.eqGuardType (n + 1) t = false := by
  cases d <;> simp [plainD] at hp <;> simp [Program.eqGuardType, ht]

theorem eqSt_ok (hE : EnvOk E P) {t : TypeId} {op : BinOp} {ox oy : Operand} {l r : List C} {xs ys : Array Value} (hl : LRel ρ l xs.toList) (hr : LRel ρ r ys.toList) {v : V}
    (h : eqOp op (eqSt E t l r) = some v) : ∃ u, (do eqGuard op t ox oy (.agg xs) (.agg ys); Go.binOp op t (.agg xs) (.agg ys) : Sem Value).run P w = .ok u w ∧ VRel ρ v u := by
  cases hq : eqSt E t l r with
  | none => rw [hq] at h; cases h
  | some b =>
    rw [hq] at h
    unfold eqSt at hq
    cases hs : plainStruct E t with
    | none => rw [hs] at hq; cases hq
    | some ds =>
      rw [hs] at hq
      simp only [] at hq
      unfold plainStruct at hs
      cases hi : E.tab.get t with
      | none => rw [hi] at hs; cases hs
      | some i =>
        rw [hi] at hs
        simp only [] at hs
        obtain ⟨f, _, _, _, f4, f5, _⟩ := hE.tab t i hi
        cases hu : i.und <;> rw [hu] at hs <;> try (cases hs; done)
        rename_i fs
        rw [hu] at f4
        simp only [] at hs
        cases hh : i.held with
        | true => rw [hh] at hs; cases hs
        | false =>
          rw [hh] at hs
          simp only [] at hs
          have hfo : P.fieldsOf t = fs := by simp [Program.fieldsOf, f4]
          have hgt : P.eqGuardType P.depth t = false := by
            show P.eqGuardType (2 * (P.types.size + Made.depth) + 1 + 1) t = false
            unfold Program.eqGuardType
            rw [f4]
            simp only []
            rw [← Array.any_toList]
            rw [List.any_eq_false]
            intro g hg
            have : ∀ (l : List Field) (o : Nat) ds, plainFields E l o = some ds → ∀ g ∈ l, ∃ d, undT E g.type = some d ∧ plainD d = true := by
              intro l
              induction l with
              | nil => intro o ds _ g hg; simp at hg
              | cons f l ih =>
                intro o ds h g hg
                obtain ⟨d, ds', _, h1, h2, _, _, h3⟩ := plainFields_cons h
                rcases List.mem_cons.1 hg with rfl | hg
                · exact ⟨d, h1, h2⟩
                · exact ih _ _ h3 g hg
            obtain ⟨d, h1, h2⟩ := this _ _ _ hs g hg
            rw [guard_plain (undT_some hE h1).1 h2]; simp
          have heq : (Op.equalIn 10000 t (.agg xs) (.agg ys)).run P w = .ok b w := by
            show (Op.equalIn (9999 + 1) t (.agg xs) (.agg ys)).run P w = _
            rw [run_equalIn_struct w 9999 t xs ys (by rw [hfo]; exact f4) (by rw [← f5]; exact hh), hfo]
            exact eqDs_ok hE 9998 xs ys fs.toList ds 0 l r b hs hq (by simpa using hl) (by simpa using hr)
          cases op <;> simp only [eqOp] at h <;> try (cases h; done)
          · cases h
            refine ⟨.bool b, ?_, rfl⟩
            simp only [Sem.run_bind, run_eqGuard_agg w _ _ _ _ _ _ hgt, Result.andThen_ok, run_eql_struct, heq]
          · cases h
            refine ⟨.bool (!b), ?_, rfl⟩
            simp only [Sem.run_bind, run_eqGuard_agg w _ _ _ _ _ _ hgt, Result.andThen_ok, run_neq_struct, heq]

theorem eq_run {t : TypeId} {op : BinOp} {ox oy : Operand} {u v : Value} {b : Bool} {x : V} (h : eqOp op (some b) = some x)
    (hg : (eqGuard op t ox oy u v).run P w = .ok () w)
    (h1 : Go.binOp .eql t u v = (do pure (.bool (← Op.equal t u v)))) (h2 : Go.binOp .neq t u v = (do pure (.bool (!(← Op.equal t u v)))))
    (he' : ∀ n, (Op.equalIn (n + 1 + 1) t u v).run P w = .ok b w) :
    ∃ r, (do eqGuard op t ox oy u v; Go.binOp op t u v : Sem Value).run P w = .ok r w ∧ VRel ρ x r := by
  have he : (Op.equal t u v).run P w = .ok b w := he' 9998
  cases op <;> simp only [eqOp] at h <;> try (cases h; done)
  · cases h
    exact ⟨.bool b, by simp only [Sem.run_bind, hg, Result.andThen_ok, h1, he]; rfl, rfl⟩
  · cases h
    exact ⟨.bool (!b), by simp only [Sem.run_bind, hg, Result.andThen_ok, h2, he]; rfl, rfl⟩

theorem eqIf_ok (hE : EnvOk E P) {t : TypeId} {ms : Array (String × TypeId)} (ht : P.underlying t = some (.interface ms)) {op : BinOp} {ox oy : Operand} {c c' : C} {u v : Value} (hc : CRel ρ c u) (hd : CRel ρ c' v)
    {b : Bool} (h : eqIf E ox oy c c' = some b) {x : V} (hx : eqOp op (some b) = some x)
    (fx : isNilConst ox = true → ∃ k, ox = .const k) (fy : isNilConst oy = true → ∃ k, oy = .const k) :
    ∃ r, (do eqGuard op t ox oy u v; Go.binOp op t u v : Sem Value).run P w = .ok r w ∧ VRel ρ x r := by
  cases c <;> simp only [eqIf] at h <;> try (cases h; done)
  case nili =>
    cases hc
    cases c' <;> simp only [] at h <;> try (cases h; done)
    case nili =>
      cases hd
      cases hn : or (isNilConst ox) (isNilConst oy) with
      | false => rw [hn] at h; cases h
      | true =>
        rw [hn] at h; cases h
        refine eq_run hx ?_ rfl rfl ?_
        · unfold eqGuard
          have hn' : isNilConst ox = true ∨ isNilConst oy = true := by simpa using hn
          rcases hn' with g | g
          · obtain ⟨k, rfl⟩ := fx g
            cases op <;> rfl
          · obtain ⟨k, rfl⟩ := fy g
            cases op <;> simp
        · intro n; rw [Op.equalIn]; simp [run_und ht]
    case ifc t' c' =>
      obtain ⟨v', rfl, _⟩ := hd
      cases h
      refine eq_run hx (by unfold eqGuard; cases op <;> simp) rfl rfl ?_
      intro n; rw [Op.equalIn]; simp [run_und ht]
  case ifc t1 c1 =>
    obtain ⟨u', rfl, hu'⟩ := hc
    cases c' <;> simp only [] at h <;> try (cases h; done)
    case nili =>
      cases hd
      cases h
      refine eq_run hx (by unfold eqGuard; cases op <;> simp) rfl rfl ?_
      intro n; rw [Op.equalIn]; simp [run_und ht]
    case ifc t2 c2 =>
      obtain ⟨v', rfl, hv'⟩ := hd
      cases hb : Nat.beq t1 t2 with
      | false =>
        rw [hb] at h; cases h
        have hne : t1 ≠ t2 := Nat.ne_of_beq_eq_false hb
        refine eq_run hx (by unfold eqGuard; cases op <;> simp) rfl rfl ?_
        intro n; rw [Op.equalIn]; simp [run_und ht, hne]
      | true =>
        rw [hb] at h
        simp only [] at h
        have := Nat.eq_of_beq_eq_true hb
        subst this
        cases hu : undT E t1 with
        | none => rw [hu] at h; cases h
        | some d =>
          rw [hu] at h
          simp only [] at h
          obtain ⟨k1, i, k2, k3⟩ := undT_some hE hu
          obtain ⟨f, f1, _, _, _, _, f6, _⟩ := hE.tab t1 i k2
          have hcmp : f.comparable = true := f6 (by rw [k3]; cases d <;> simp only [eqPlain] at h <;> first | rfl | (cases h; done))
          refine eq_run hx (by unfold eqGuard; cases op <;> simp) rfl rfl ?_
          intro n
          have := eqPlain_ok (w := w) k1 hu' hv' h n
          rw [Op.equalIn]
          simp only [Sem.run_bind, run_und ht, Result.andThen_ok, ne_eq, not_true_eq_false, if_false, run_info f1, hcmp, Bool.not_true, Bool.false_eq_true, this]

theorem eqAt_ok (hE : EnvOk E P) {t : TypeId} {op : BinOp} {ox oy : Operand} {c c' : C} {u v : Value} (hc : CRel ρ c u) (hd : CRel ρ c' v)
    {x : V} (h : eqOp op (eqAt E t ox oy c c') = some x) (fx : isNilConst ox = true → ∃ k, ox = .const k) (fy : isNilConst oy = true → ∃ k, oy = .const k) :
    ∃ r, (do eqGuard op t ox oy u v; Go.binOp op t u v : Sem Value).run P w = .ok r w ∧ VRel ρ x r := by
  cases hq : eqAt E t ox oy c c' with
  | none => rw [hq] at h; cases h
  | some b =>
    rw [hq] at h
    unfold eqAt at hq
    cases hu : undT E t with
    | none => rw [hu] at hq; cases hq
    | some d =>
      have ht := (undT_some hE hu).1
      rw [hu] at hq
      cases d <;> simp only [] at hq <;> try (cases hq; done)
      case bool =>
        cases c <;> simp only [eqPlain] at hq <;> try (cases hq; done)
        cases c' <;> simp only [] at hq <;> try (cases hq; done)
        cases hc; cases hd; cases hq
        exact eq_run h (by unfold eqGuard; cases op <;> simp) rfl rfl (by intro n; rw [Op.equalIn]; simp [run_und ht])
      case pointer =>
        cases c <;> simp only [eqPtr] at hq <;> try (cases hq; done)
        all_goals cases c' <;> simp only [] at hq <;> try (cases hq; done)
        · cases hc; cases hd; cases hq; exact eq_run h (by unfold eqGuard; cases op <;> simp) rfl rfl (by intro n; rw [Op.equalIn]; simp [run_und ht])
        · cases hc; obtain ⟨q, _, rfl⟩ := hd; cases hq; exact eq_run h (by unfold eqGuard; cases op <;> simp) rfl rfl (by intro n; rw [Op.equalIn]; simp [run_und ht])
        · cases hc; obtain ⟨q, rfl⟩ := dp_ptr hd; cases hq; exact eq_run h (by unfold eqGuard; cases op <;> simp) rfl rfl (by intro n; rw [Op.equalIn]; simp [run_und ht])
        · cases hd; obtain ⟨q, _, rfl⟩ := hc; cases hq; exact eq_run h (by unfold eqGuard; cases op <;> simp) rfl rfl (by intro n; rw [Op.equalIn]; simp [run_und ht])
        · cases hd; obtain ⟨q, rfl⟩ := dp_ptr hc; cases hq; exact eq_run h (by unfold eqGuard; cases op <;> simp) rfl rfl (by intro n; rw [Op.equalIn]; simp [run_und ht])
      case slice =>
        cases c <;> simp only [eqSl] at hq <;> try (cases hq; done)
        all_goals cases c' <;> simp only [] at hq <;> try (cases hq; done)
        · cases hc; cases hd; cases hq; exact eq_run h (by unfold eqGuard; cases op <;> simp) rfl rfl (by intro n; rw [Op.equalIn]; simp [run_und ht])
        · cases hc; obtain ⟨_, _, _, _, rfl, _⟩ := hd; cases hq; exact eq_run h (by unfold eqGuard; cases op <;> simp) rfl rfl (by intro n; rw [Op.equalIn]; simp [run_und ht])
        · cases hc; obtain ⟨_, _, rfl, _⟩ := dat_sl hd; cases hq; exact eq_run h (by unfold eqGuard; cases op <;> simp) rfl rfl (by intro n; rw [Op.equalIn]; simp [run_und ht])
        · cases hd; obtain ⟨_, _, _, _, rfl, _⟩ := hc; cases hq; exact eq_run h (by unfold eqGuard; cases op <;> simp) rfl rfl (by intro n; rw [Op.equalIn]; simp [run_und ht])
        · cases hd; obtain ⟨_, _, rfl, _⟩ := dat_sl hc; cases hq; exact eq_run h (by unfold eqGuard; cases op <;> simp) rfl rfl (by intro n; rw [Op.equalIn]; simp [run_und ht])
      case map =>
        cases c <;> simp only [eqMap] at hq <;> try (cases hq; done)
        all_goals cases c' <;> simp only [] at hq <;> try (cases hq; done)
        all_goals first
          | (cases hc; obtain ⟨_, _, rfl⟩ := hd; cases hq; exact eq_run h (by unfold eqGuard; cases op <;> simp) rfl rfl (by intro n; rw [Op.equalIn]; simp [run_und ht]))
          | (cases hd; obtain ⟨_, _, rfl⟩ := hc; cases hq; exact eq_run h (by unfold eqGuard; cases op <;> simp) rfl rfl (by intro n; rw [Op.equalIn]; simp [run_und ht]))
          | (cases hc; cases hd; cases hq; exact eq_run h (by unfold eqGuard; cases op <;> simp) rfl rfl (by intro n; rw [Op.equalIn]; simp [run_und ht]))
      case func =>
        cases c <;> simp only [eqFn] at hq <;> try (cases hq; done)
        all_goals cases c' <;> simp only [] at hq <;> try (cases hq; done)
        all_goals first
          | (cases hc; obtain ⟨_, rfl, _⟩ := hd; cases hq; exact eq_run h (by unfold eqGuard; cases op <;> simp) rfl rfl (by intro n; rw [Op.equalIn]; simp [run_und ht]))
          | (cases hd; obtain ⟨_, rfl, _⟩ := hc; cases hq; exact eq_run h (by unfold eqGuard; cases op <;> simp) rfl rfl (by intro n; rw [Op.equalIn]; simp [run_und ht]))
          | (cases hc; cases hd; cases hq; exact eq_run h (by unfold eqGuard; cases op <;> simp) rfl rfl (by intro n; rw [Op.equalIn]; simp [run_und ht]))
      case interface ms => exact eqIf_ok hE ht hc hd hq h fx fy

theorem nilConst (ox : Operand) (h : isNilConst ox = true) : ∃ k, ox = .const k := by
  cases ox with
  | const k => exact ⟨k, rfl⟩
  | _ => simp [isNilConst] at h

theorem bin_ok (hE : EnvOk E P) (hx : OpRel ρ a e x) (hy : OpRel ρ a e y) {op : BinOp} {t : TypeId} {v : V} (hr : rBin E a op t x y = some v) :
    ∃ u, (do eqGuard op t x y (e x) (e y); Go.binOp op t (e x) (e y) : Sem Value).run P w = .ok u w ∧ VRel ρ v u := by
  unfold rBin at hr
  cases h1 : opW a x with
  | none => rw [h1] at hr; cases hr
  | some x1 =>
    cases h2 : opW a y with
    | none => rw [h1, h2] at hr; cases hr
    | some y1 =>
      rw [h1, h2] at hr
      simp only [] at hr
      have rx := toW_rel hx h1
      have ry := toW_rel hy h2
      unfold binOp at hr
      cases x1 with
      | agg l =>
        cases y1 with
        | c _ => cases hr
        | agg r =>
          simp only [] at hr
          obtain ⟨xs, ex, lx⟩ := rx
          obtain ⟨ys, ey, ly⟩ := ry
          rw [ex, ey]
          exact eqSt_ok hE lx ly hr
      | c c1 =>
        cases y1 with
        | agg _ => cases hr
        | c c2 =>
          simp only [] at hr
          have plain : ∀ u v : Value, (∃ k n, u = .int k n) ∨ (∃ s, u = .string s) → (eqGuard op t x y u v).run P w = .ok () w := by
            intro u v h
            rcases h with ⟨k, n, rfl⟩ | ⟨s, rfl⟩ <;> unfold eqGuard <;> cases op <;> simp
          cases c1 <;> simp only [] at hr
          case int k n =>
            cases c2 <;> simp only [] at hr <;> try (cases hr; done)
            rotate_left
            · rename_i kk
              have ex : e x = .int k n := rx
              obtain ⟨m, ey, hm⟩ := ry
              rw [ex, ey]
              unfold geqOp at hr
              cases op <;> simp only [] at hr <;> try (cases hr; done)
              cases hb : and (kEq k .i64) (iLe n (Int.ofNat kk)) with
              | false => rw [hb] at hr; cases hr
              | true =>
                rw [hb] at hr
                cases hr
                rw [Bool.and_eq_true, kEq_iff, iLe_eq, decide_eq_true_eq] at hb
                obtain ⟨rfl, hle⟩ := hb
                have hi : intOp .gtr .i64 n m = some (.bool false) := by
                  show some (C.bool (!iLe n m)) = _
                  rw [iLe_eq, decide_eq_true (by have : n ≤ (kk : Int) := hle; omega)]; rfl
                obtain ⟨u, g1, g2⟩ := intOp_ok (P := P) (w := w) (ρ := ρ) t hi rfl
                exact ⟨u, by simp only [Sem.run_bind, plain _ _ (.inl ⟨_, _, rfl⟩), Result.andThen_ok, g1], g2⟩
            rename_i k' n'
            have ex : e x = .int k n := rx
            have ey : e y = .int k' n' := ry
            rw [ex, ey]
            cases hs : isShift op with
            | true =>
              rw [hs] at hr
              obtain ⟨c, hc, rfl⟩ := obC hr
              obtain ⟨u, g1, g2⟩ := shiftOp_ok (P := P) (w := w) (ρ := ρ) (k' := k') t hc
              exact ⟨u, by simp only [Sem.run_bind, plain _ _ (.inl ⟨_, _, rfl⟩), Result.andThen_ok, g1], g2⟩
            | false =>
              rw [hs] at hr
              simp only [] at hr
              cases hk : kEq k k' with
              | false => rw [hk] at hr; cases hr
              | true =>
                rw [hk] at hr
                have := (kEq_iff k k').1 hk
                subst this
                obtain ⟨c, hc, rfl⟩ := obC hr
                obtain ⟨u, g1, g2⟩ := intOp_ok (P := P) (w := w) (ρ := ρ) t hc hs
                exact ⟨u, by simp only [Sem.run_bind, plain _ _ (.inl ⟨_, _, rfl⟩), Result.andThen_ok, g1], g2⟩
          case str s =>
            cases c2 <;> simp only [] at hr <;> try (cases hr; done)
            obtain ⟨bs, ex, rfl⟩ := rx
            obtain ⟨bs', ey, rfl⟩ := ry
            rw [ex, ey]
            obtain ⟨c, hc, rfl⟩ := obC hr
            obtain ⟨u, g1, g2⟩ := strOp_ok (P := P) (w := w) (ρ := ρ) t hc
            exact ⟨u, by simp only [Sem.run_bind, plain _ _ (.inr ⟨_, rfl⟩), Result.andThen_ok, g1], g2⟩
          all_goals exact eqAt_ok hE rx ry hr (nilConst x) (nilConst y)

end
end Ev

set_option linter.unusedVariables false
set_option linter.unusedSimpArgs false
namespace Ev
open Go

section
variable {P : Program} {w : World} {E : Env} {ρ : Mp} {a : A} {e : Operand → Value} {x y : Operand}

theorem un_ok (hx : OpRel ρ a e x) {op : UnOp} {v : V} (hr : rUn a op x = some v) : ∃ u, (Op.unary op (e x)).run P w = .ok u w ∧ VRel ρ v u := by
  unfold rUn at hr
  cases hc : opC a x with
  | none => rw [hc] at hr; cases hr
  | some c =>
    rw [hc] at hr
    simp only [] at hr
    obtain ⟨d, hd, rfl⟩ := obC hr
    have hcx := toC_rel hx hc
    cases c <;> try (simp only [unOp] at hd; cases hd; done)
    case bool b =>
      have ex : e x = .bool b := hcx
      cases op <;> simp only [unOp] at hd <;> try (cases hd; done)
      cases hd
      exact ⟨.bool (!b), by rw [ex]; rfl, rfl⟩
    case int k n =>
      have ex : e x = .int k n := hcx
      cases op <;> simp only [unOp, intC_eq, wrapK_eq, Option.some.injEq] at hd <;> try (cases hd; done)
      case neg =>
        subst hd
        exact ⟨_, by rw [ex]; rfl, rfl⟩
      case xor =>
        subst hd
        refine ⟨_, by rw [ex]; simp [Op.unary, Op.intBits] <;> rfl, ?_⟩
        simp only [vc, VRel, WRel, CRel, bitsN_eq]; simp <;> rfl

theorem mkPart (hE : EnvOk E P) {t : TypeId} {j : TI} (hi : E.tab.get t = some j) {l : List C} {cs : Array Value} (hl : LRel ρ l cs.toList) {o : Nat} {r : W} (h : mkW j.isAgg ((l.drop o).take j.size) = some r) :
    ∃ u, (part t cs o).run P w = .ok u w ∧ WRel ρ r u := by
  obtain ⟨f, f1, f2, f3, f4, _⟩ := hE.tab t j hi
  have hl2 : LRel ρ ((l.drop o).take j.size) ((cs.toList.drop o).take j.size) := All2.take (All2.drop hl o) j.size
  unfold part
  rcases mkW_rel hl2 h with ⟨ha, rfl, hw⟩ | ⟨ha, c, v, h1, h2, rfl, hc⟩
  · have ha' : isAggT j.und = true := ha
    refine ⟨_, ?_, hw⟩
    simp only [Sem.run_bind, run_agg f4, Result.andThen_ok, ha', if_true, run_size f1, f2, Sem.run_pure]
    congr 2
    apply Array.ext'
    simp [Array.toList_extract, List.extract_eq_take_drop]
  · have ha' : isAggT j.und = false := ha
    refine ⟨v, ?_, hc⟩
    have hg : cs[o]? = some v := by
      have := congrArg (fun q => q[0]?) h2
      simp only [List.getElem?_take, List.getElem?_drop] at this
      split at this
      · simpa using this
      · simp at this
    simp only [Sem.run_bind, run_agg f4, Result.andThen_ok, ha', Bool.false_eq_true, if_false, hg, Sem.run_pure]

theorem field_ok (hE : EnvOk E P) (hx : OpRel ρ a e x) {t f : Nat} {v : V} (hr : rField E a t x f = some v) : ∃ u, (Instr.field t (e x) f).run P w = .ok u w ∧ VRel ρ v u := by
  unfold rField at hr
  cases h1 : opW a x with
  | none => rw [h1] at hr; cases hr
  | some x1 =>
    rw [h1] at hr
    simp only [] at hr
    obtain ⟨r, hq, rfl⟩ := obW hr
    clear hr
    unfold field at hq
    cases hf : fieldAt E t f with
    | none => rw [hf] at hq; cases hq
    | some fj =>
      obtain ⟨fd, j⟩ := fj
      rw [hf] at hq
      simp only [] at hq
      obtain ⟨fs, i, g1, g2, g3, g4, g5, g6⟩ := fieldAt_some hE hf
      cases x1 with
      | c _ => cases hq
      | agg l =>
        simp only [] at hq
        obtain ⟨cs, ex, hl⟩ := toW_rel hx h1
        obtain ⟨u, k1, k2⟩ := mkPart (P := P) (w := w) hE g3 hl hq
        refine ⟨u, ?_, k2⟩
        unfold Instr.field
        simp only [ex, Sem.run_bind, run_und g1, Result.andThen_ok, g2, asAgg, Sem.run_pure, k1]

theorem index_ok (hE : EnvOk E P) {i : Operand} (hx : OpRel ρ a e x) (hi : OpRel ρ a e i) {t : Nat} {v : V} (hr : rIndex E a t x i = some v) :
    ∃ u, (Instr.index t (e x) (e i)).run P w = .ok u w ∧ VRel ρ v u := by
  unfold rIndex at hr
  cases h1 : opW a x with
  | none => rw [h1] at hr; cases hr
  | some x1 =>
    rw [h1] at hr
    simp only [] at hr
    cases hn : opI a i with
    | none => rw [hn] at hr; cases hr
    | some n =>
      rw [hn] at hr
      simp only [] at hr
      obtain ⟨r, hq, rfl⟩ := obW hr
      clear hr
      obtain ⟨k, hk⟩ := toI_rel hi hn
      have hcx := toW_rel hx h1
      unfold index at hq
      cases hu : undT E t with
      | none => rw [hu] at hq; cases hq
      | some ty =>
        rw [hu] at hq
        have hu' := (undT_some hE hu).1
        cases ty <;> try (cases hq; done)
        case array len el =>
          cases x1 with
          | c _ => cases hq
          | agg l =>
            simp only [] at hq
            cases hb : inB n len with
            | none => rw [hb] at hq; cases hq
            | some m =>
              rw [hb] at hq
              simp only [] at hq
              cases hj : E.tab.get el with
              | none => rw [hj] at hq; cases hq
              | some j =>
                rw [hj] at hq
                simp only [] at hq
                obtain ⟨cs, ex, hl⟩ := hcx
                obtain ⟨rfl, hm⟩ := inB_some hb
                obtain ⟨f, f1, f2, _⟩ := hE.tab el j hj
                obtain ⟨u, k1, k2⟩ := mkPart (P := P) (w := w) hE hj hl hq
                refine ⟨u, ?_, k2⟩
                unfold Instr.index
                have hc : (0 : Int) ≤ (m : Int) ∧ (m : Int) < (len : Int) := by omega
                simp only [asIntOf, hk, ex, Sem.run_bind, Sem.run_pure, run_und hu', Result.andThen_ok, hc, and_self, if_true, run_size f1, f2, Int.toNat_natCast]
                exact k1
        case string =>
          cases x1 with
          | agg _ => cases hq
          | c c1 =>
            cases c1 <;> simp only [] at hq <;> try (cases hq; done)
            rename_i s
            cases hb : inB n s.len with
            | none => rw [hb] at hq; cases hq
            | some m =>
              rw [hb] at hq
              cases hq
              obtain ⟨bs, ex, rfl⟩ := hcx
              obtain ⟨rfl, hm⟩ := inB_some hb
              have hm' : m < bs.size := hm
              refine ⟨.int .u8 ((bs.get! m).toNat : Nat), ?_, ?_⟩
              · unfold Instr.index
                have hg : bs[m]? = some (bs.get! m) := by
                  rw [getElem?_pos bs m hm']
                  congr 1
                  show bs.data[m] = bs.data[m]!
                  rw [getElem!_pos bs.data m (by simpa using hm')]
                have hc : (0 : Int) ≤ (m : Int) := by omega
                simp only [asIntOf, hk, ex, Sem.run_bind, Sem.run_pure, run_und hu', Result.andThen_ok, hc, if_true, Int.toNat_natCast, hg]
              · show _ = _
                rw [at_get bs m hm']; rfl

theorem notIface_ok (hE : EnvOk E P) {t : TypeId} (h : notIface E t = true) : ∃ d, P.underlying t = some d ∧ (∀ ms, d ≠ .interface ms) := by
  unfold notIface at h
  cases hu : undT E t with
  | none => rw [hu] at h; cases h
  | some d =>
    rw [hu] at h
    refine ⟨d, (undT_some hE hu).1, ?_⟩
    rintro ms rfl
    cases h

theorem mkIface_ok (hE : EnvOk E P) (hx : OpRel ρ a e x) {t : TypeId} {v : V} (hr : rMakeInterface E a t x = some v) : ∃ u, (Instr.makeInterface t (e x)).run P w = .ok u w ∧ VRel ρ v u := by
  unfold rMakeInterface at hr
  cases hn : notIface E t with
  | false => rw [hn] at hr; cases hr
  | true =>
    rw [hn] at hr
    simp only [] at hr
    obtain ⟨d, hd, hne⟩ := notIface_ok hE hn
    have hrun : (Instr.makeInterface t (e x)).run P w = .ok (.iface t (e x)) w := by
      unfold Instr.makeInterface
      simp only [Sem.run_bind, run_und hd, Result.andThen_ok]
      cases d <;> first | rfl | exact absurd rfl (hne _)
    cases h1 : opW a x with
    | none => rw [h1] at hr; cases hr
    | some x1 =>
      have hw := toW_rel hx h1
      rw [h1] at hr
      cases x1 with
      | c c => cases hr; exact ⟨_, hrun, ⟨e x, rfl, hw⟩⟩
      | agg l =>
        cases l with
        | cons _ _ => cases hr
        | nil =>
          cases hr
          obtain ⟨cs, ex, hl⟩ := hw
          have : cs = #[] := by
            have := hl.length
            simp at this
            exact Array.eq_empty_of_size_eq_zero this.symm
          refine ⟨_, hrun, ?_⟩
          show _ = _
          rw [ex, this]

theorem ptrs_ok : ∀ (l : List Operand) (r : List (Nat × Nat)), (∀ x ∈ l, OpRel ρ a e x) → ptrsOf a l = some r → All2 (PtrRel ρ) r (l.map e)
  | [], r, _, h => by simp only [ptrsOf, Option.some.injEq] at h; subst h; exact .nil
  | x :: l, r, ho, h => by
    simp only [ptrsOf] at h
    cases h1 : opP a x with
    | none => rw [h1] at h; cases h
    | some p =>
      rw [h1] at h
      simp only [] at h
      cases h2 : ptrsOf a l with
      | none => rw [h2] at h; cases h
      | some r' =>
        rw [h2] at h
        cases h
        exact .cons (toP_rel (ho x (by simp)) h1) (ptrs_ok l r' (fun y hy => ho y (by simp [hy])) h2)

theorem mkFunc_ok {f : Fn} {first cap : Array Operand} (hc : ∀ x ∈ cap.toList, OpRel ρ a e x) {v : V} (hr : rMakeFunc a f first.toList cap.toList = some v) :
    ∃ u, (Instr.makeFunc f (first.map e) (cap.map e)).run P w = .ok u w ∧ VRel ρ v u := by
  unfold rMakeFunc at hr
  cases f <;> try (cases hr; done)
  rename_i f
  cases h1 : first.toList with
  | cons _ _ => rw [h1] at hr; cases hr
  | nil =>
    rw [h1] at hr
    simp only [] at hr
    cases h2 : ptrsOf a cap.toList with
    | none => rw [h2] at hr; cases hr
    | some r =>
      rw [h2] at hr
      cases hr
      have hf : first = #[] := by apply Array.ext'; rw [h1]
      subst hf
      refine ⟨_, rfl, ⟨cap.map e, by simp, ?_⟩⟩
      simpa using ptrs_ok cap.toList r hc h2

theorem len_ok (hE : EnvOk E P) {look : Look} (h : Sees ρ look w.heap) (hx : OpRel ρ a e x) {ts : Array TypeId} {ty : TypeId} {v : V} (hr : rLen E look a ts x = some v) :
    ∃ u, (Builtin.len_ ts ty #[e x]).run P w = .ok u w ∧ VRel ρ v u := by
  unfold rLen at hr
  cases ht : ts[0]? with
  | none => rw [ht] at hr; cases hr
  | some t =>
    rw [ht] at hr
    simp only [] at hr
    cases hc : opC a x with
    | none => rw [hc] at hr; cases hr
    | some c =>
      rw [hc] at hr
      simp only [] at hr
      cases hl : len E t look c with
      | none => rw [hl] at hr; cases hr
      | some n =>
        rw [hl] at hr
        cases hr
        have hcx := toC_rel hx hc
        refine ⟨goInt n, ?_, rfl⟩
        unfold len at hl
        cases hu : undT E t with
        | none => rw [hu] at hl; cases hl
        | some d =>
          rw [hu] at hl
          have hu' := (undT_some hE hu).1
          unfold Builtin.len_
          simp only [ht, List.getElem?_toArray, List.getElem?_cons_zero]
          cases d <;> simp only [] at hl <;> try (cases hl; done)
          case string =>
            cases c <;> simp only [] at hl <;> try (cases hl; done)
            cases hl
            obtain ⟨bs, ex, rfl⟩ := hcx
            simp only [Sem.run_bind, run_und hu', Result.andThen_ok, ex]; rfl
          case slice =>
            cases c <;> simp only [] at hl <;> try (cases hl; done)
            · cases hl
              have ex : e x = _ := hcx
              simp only [Sem.run_bind, run_und hu', Result.andThen_ok, ex]; rfl
            · cases hl
              obtain ⟨p, ad, cp, _, ex, _⟩ := hcx
              simp only [Sem.run_bind, run_und hu', Result.andThen_ok, ex]; rfl
            · cases hl
              obtain ⟨ad, cp, ex, _⟩ := dat_sl hcx
              simp only [Sem.run_bind, run_und hu', Result.andThen_ok, ex, lenA_zero]; rfl
          case array =>
            cases hl
            simp only [Sem.run_bind, run_und hu', Result.andThen_ok]; rfl
          case map =>
            cases c <;> simp only [] at hl <;> try (cases hl; done)
            · cases hl
              have ex : e x = _ := hcx
              simp only [Sem.run_bind, run_und hu', Result.andThen_ok, ex]; rfl
            · rename_i r
              obtain ⟨p, hp, ex⟩ := hcx
              cases hm : look r with
              | none => rw [hm] at hl; cases hl
              | some bk =>
                rw [hm] at hl
                cases bk <;> simp only [] at hl <;> try (cases hl; done)
                cases hl
                obtain ⟨ob, g2, arr, clk, rfl, g3⟩ := h.row r _ p hm rfl hp
                have hlen := g3.length
                simp only [Sem.run_bind, run_und hu', Result.andThen_ok, ex]
                have hgo : (getObj p.c).run P w = .ok (.map arr clk) w := by
                  show Sem.run P (Sem.getObj p.c Sem.pure) w = _
                  rw [Sem.run, g2]; rfl
                simp only [hgo, Result.andThen_ok, Sem.run_pure]
                rw [lenA_zero, hlen]; simp

theorem min_ok (hx : OpRel ρ a e x) (hy : OpRel ρ a e y) {ts : Array TypeId} {ty : TypeId} {v : V} (hr : rMin a x y = some v) : ∃ u, (Builtin.min_ ts ty #[e x, e y]).run P w = .ok u w ∧ VRel ρ v u := by
  unfold rMin at hr
  cases h1 : opC a x with
  | none => rw [h1] at hr; cases hr
  | some c =>
    rw [h1] at hr
    cases c <;> simp only [] at hr <;> try (cases hr; done)
    cases h2 : opC a y with
    | none => rw [h2] at hr; cases hr
    | some d =>
      rw [h2] at hr
      cases d <;> simp only [] at hr <;> try (cases hr; done)
      rename_i k n k' m
      have ex : e x = .int k n := toC_rel hx h1
      have ey : e y = .int k' m := toC_rel hy h2
      rw [iLe_eq] at hr
      refine ⟨.int k (if m < n then m else n), ?_, ?_⟩
      · unfold Builtin.min_
        simp [ex, ey, Builtin.min2]
      · by_cases hle : n ≤ m
        · rw [decide_eq_true hle] at hr; cases hr
          show _ = _; rw [if_neg (by omega)]
        · rw [decide_eq_false hle] at hr; cases hr
          show _ = _; rw [if_pos (by omega)]

theorem max_ok (hx : OpRel ρ a e x) (hy : OpRel ρ a e y) {ts : Array TypeId} {ty : TypeId} {v : V} (hr : rMax a x y = some v) : ∃ u, (Builtin.max_ ts ty #[e x, e y]).run P w = .ok u w ∧ VRel ρ v u := by
  unfold rMax at hr
  cases h1 : opC a x with
  | none => rw [h1] at hr; cases hr
  | some c =>
    rw [h1] at hr
    cases c <;> simp only [] at hr <;> try (cases hr; done)
    cases h2 : opC a y with
    | none => rw [h2] at hr; cases hr
    | some d =>
      rw [h2] at hr
      cases d <;> simp only [] at hr <;> try (cases hr; done)
      rename_i k n k' m
      have ex : e x = .int k n := toC_rel hx h1
      have ey : e y = .int k' m := toC_rel hy h2
      rw [iLe_eq] at hr
      refine ⟨.int k (if m > n then m else n), ?_, ?_⟩
      · unfold Builtin.max_
        simp [ex, ey, Builtin.max2]
      · by_cases hle : m ≤ n
        · rw [decide_eq_true hle] at hr; cases hr
          show _ = _; rw [if_neg (by omega)]
        · rw [decide_eq_false hle] at hr; cases hr
          show _ = _; rw [if_pos (by omega)]

theorem cap_ok (hE : EnvOk E P) {look : Look} (h : Sees ρ look w.heap) (hx : OpRel ρ a e x) {ts : Array TypeId} {ty : TypeId} {v : V} (hr : rCap E look a ts x = some v) :
    ∃ u, (Builtin.cap_ ts ty #[e x]).run P w = .ok u w ∧ VRel ρ v u := by
  unfold rCap at hr
  cases ht : ts[0]? with
  | none => rw [ht] at hr; cases hr
  | some t =>
    rw [ht] at hr
    simp only [] at hr
    cases hu : undT E t with
    | none => rw [hu] at hr; cases hr
    | some d =>
      rw [hu] at hr
      have hu' := (undT_some hE hu).1
      cases d <;> simp only [] at hr <;> try (cases hr; done)
      unfold Builtin.cap_
      simp only [ht, List.getElem?_toArray, List.getElem?_cons_zero]
      cases hc : opC a x with
      | none => rw [hc] at hr; cases hr
      | some c =>
        rw [hc] at hr
        have hcx := toC_rel hx hc
        cases c <;> (try simp only [] at hr) <;> try (cases hr; done)
        · cases hr
          have ex : e x = _ := hcx
          exact ⟨goInt 0, by simp only [Sem.run_bind, run_und hu', Result.andThen_ok, ex]; rfl, rfl⟩
        · rename_i b o n cap z
          cases cap with
          | none =>
            simp only [] at hr
            unfold capOpen at hr
            cases z with
            | zero => cases hr
            | succ z =>
              simp only [] at hr
              cases hrow : rowOf look b with
              | none => rw [hrow] at hr; cases hr
              | some r =>
                rw [hrow] at hr
                cases hr
                obtain ⟨p, ad, cp, hp, ex, hs⟩ := hcx
                refine ⟨goInt cp, by simp only [Sem.run_bind, run_und hu', Result.andThen_ok, ex]; rfl, (cp : Int), rfl, ?_⟩
                have hlk : look b = some (.row r) := by
                  unfold rowOf at hrow
                  cases hx : look b with
                  | none => rw [hx] at hrow; cases hrow
                  | some y =>
                    rw [hx] at hrow
                    cases y <;> first | (cases hrow; rfl) | cases hrow
                obtain ⟨ob, _, arr, ty', fz, _, hrw⟩ := h.row b _ p hlk rfl hp
                have hkn := hrw.kn
                have hop := (hs.op rfl).1
                have : (r.n - o) / (z + 1) ≤ cp := Nat.div_le_of_le_mul (by rw [Nat.mul_comm]; omega)
                exact Int.ofNat_le.2 this
          | some k =>
            cases hr
            obtain ⟨p, ad, cp, _, ex, hs⟩ := hcx
            have := (hs.ex k rfl).1
            subst this
            exact ⟨goInt cp, by simp only [Sem.run_bind, run_und hu', Result.andThen_ok, ex]; rfl, rfl⟩
        · cases hr
          obtain ⟨ad, cp, ex, hle⟩ := dat_sl hcx
          exact ⟨goInt cp, by simp only [Sem.run_bind, run_und hu', Result.andThen_ok, ex]; rfl, (cp : Int), rfl, by rw [lenA_zero]; exact Int.ofNat_le.2 hle⟩

end
end Ev

set_option linter.unusedVariables false
set_option linter.unusedSimpArgs false
namespace Ev
open Go

section
variable {P : Program} {w : World} {E : Env} {ρ : Mp} {a : A} {e : Operand → Value} {x y : Operand}

theorem parts_ok : ∀ (l : List (Nat × Operand)) (r : List (Nat × W)), (∀ x ∈ l, OpRel ρ a e x.2) → partsOf a l = some r →
    All2 (fun (p : Nat × W) (q : Nat × Value) => p.1 = q.1 ∧ WRel ρ p.2 q.2) r (l.map fun x => (x.1, e x.2))
  | [], r, _, h => by simp only [partsOf, Option.some.injEq] at h; subst h; exact .nil
  | (i, x) :: l, r, ho, h => by
    simp only [partsOf] at h
    cases h1 : opW a x with
    | none => rw [h1] at h; cases h
    | some p =>
      rw [h1] at h
      simp only [] at h
      cases h2 : partsOf a l with
      | none => rw [h2] at h; cases h
      | some r' =>
        rw [h2] at h
        cases h
        exact .cons ⟨rfl, toW_rel (ho (i, x) (by simp)) h1⟩ (parts_ok l r' (fun y hy => ho y (by simp [hy])) h2)

theorem splice_get (cells vs : Array Value) (o : Nat) : ∀ k, (vs.zipIdx.foldl (fun cs (c, j) => cs.setIfInBounds (o + j) c) cells)[k]? =
    if k < cells.size then (if o ≤ k ∧ k < o + vs.size then vs[k - o]? else cells[k]?) else none := by
  have key : ∀ (l : List Value) (n : Nat) (cs : Array Value), ((l.zipIdx n).foldl (fun cs (p : Value × Nat) => cs.setIfInBounds (o + p.2) p.1) cs).size = cs.size ∧
      ∀ k, ((l.zipIdx n).foldl (fun cs (p : Value × Nat) => cs.setIfInBounds (o + p.2) p.1) cs)[k]? = if k < cs.size then (if o + n ≤ k ∧ k < o + n + l.length then l[k - (o + n)]? else cs[k]?) else none := by
    intro l
    induction l with
    | nil =>
      intro n cs
      refine ⟨rfl, fun k => ?_⟩
      simp only [List.zipIdx_nil, List.foldl_nil, List.length_nil]
      by_cases hk : k < cs.size
      · rw [if_pos hk, if_neg (by omega)]
      · rw [if_neg hk]; simp; omega
    | cons v l ih =>
      intro n cs
      simp only [List.zipIdx_cons, List.foldl_cons]
      obtain ⟨h1, h2⟩ := ih (n + 1) (cs.setIfInBounds (o + n) v)
      simp only [Array.size_setIfInBounds] at h1 h2
      refine ⟨h1, fun k => ?_⟩
      rw [h2 k]
      by_cases hk : k < cs.size
      · rw [if_pos hk, if_pos hk]
        simp only [List.length_cons]
        by_cases g : o + (n + 1) ≤ k ∧ k < o + (n + 1) + l.length
        · rw [if_pos g, if_pos (by omega), show k - (o + n) = (k - (o + (n + 1))) + 1 by omega]; rfl
        · rw [if_neg g]
          by_cases g2 : k = o + n
          · subst g2; rw [if_pos (by omega), Nat.sub_self, Array.getElem?_setIfInBounds, if_pos rfl, if_pos hk]; rfl
          · rw [if_neg (by omega), Array.getElem?_setIfInBounds, if_neg (Ne.symm g2)]
      · rw [if_neg hk, if_neg hk]
  intro k
  have h := (key vs.toList 0 cells).2 k
  rw [← Array.foldl_toList, Array.toList_zipIdx]
  simpa using h

theorem fill_ok (f : Nat → Option (Nat × Nat)) : ∀ (l : List (Nat × W)) (l' : List (Nat × Value)) (zs r : List C) (cells : Array Value),
    All2 (fun (p : Nat × W) (q : Nat × Value) => p.1 = q.1 ∧ WRel ρ p.2 q.2) l l' → LRel ρ zs cells.toList → fillL f zs l = some r →
    ∃ cells' : Array Value, Instr.fill f cells l' = some cells' ∧ LRel ρ r cells'.toList := by
  intro l
  induction l with
  | nil => intro l' zs r cells h hz hr; cases h; simp only [fillL, Option.some.injEq] at hr; subst hr; exact ⟨cells, rfl, hz⟩
  | cons p l ih =>
    intro l' zs r cells h hz hr
    obtain ⟨i, v⟩ := p
    cases h with
    | cons h1 h2 =>
      rename_i q l'
      obtain ⟨i', u⟩ := q
      obtain ⟨rfl, hv⟩ := h1
      simp only [fillL] at hr
      cases hf : f i with
      | none => rw [hf] at hr; cases hr
      | some on =>
        obtain ⟨o, n⟩ := on
        rw [hf] at hr
        simp only [lenA_zero] at hr
        cases hb : and (Nat.beq v.cells.length n) (Nat.ble (Nat.add o n) zs.length) with
        | false => rw [hb] at hr; cases hr
        | true =>
          rw [hb] at hr
          simp only [] at hr
          rw [Bool.and_eq_true] at hb
          have hn : v.cells.length = n := Nat.eq_of_beq_eq_true hb.1
          have hle : o + n ≤ zs.length := Nat.le_of_ble_eq_true hb.2
          have hvc := hv.cells
          have hul : u.cells.size = n := by have := hvc.length; simp at this; omega
          have hzl : zs.length = cells.size := by have := hz.length; simpa using this
          have hnew : LRel ρ (zs.take o ++ v.cells ++ zs.drop (Nat.add o n)) (u.cells.zipIdx.foldl (fun cs (c, j) => cs.setIfInBounds (o + j) c) cells).toList := by
            have hx : (u.cells.zipIdx.foldl (fun cs (c, j) => cs.setIfInBounds (o + j) c) cells).toList = cells.toList.take o ++ u.cells.toList ++ cells.toList.drop (o + n) := by
              apply List.ext_getElem?
              intro k
              rw [Array.getElem?_toList, splice_get]
              by_cases hk : k < cells.size
              · rw [if_pos hk]
                by_cases g1 : k < o
                · rw [if_neg (by omega), List.append_assoc, List.getElem?_append_left (by simp; omega), List.getElem?_take, if_pos g1]; simp
                · have ht : (cells.toList.take o).length = o := by simp; omega
                  by_cases g2 : k < o + n
                  · rw [if_pos (by omega), List.append_assoc, List.getElem?_append_right (by omega), List.getElem?_append_left (by simp; omega), ht]
                    simp
                  · rw [if_neg (by omega)]
                    have ht2 : (cells.toList.take o ++ u.cells.toList).length = o + n := by simp; omega
                    rw [List.getElem?_append_right (by omega), List.getElem?_drop, ht2, show o + n + (k - (o + n)) = k by omega]; simp
              · rw [if_neg hk]
                symm
                apply List.getElem?_eq_none
                simp; omega
            rw [hx]
            exact All2.append (All2.append (All2.take hz o) hvc) (All2.drop hz (o + n))
          obtain ⟨cells', g1, g2⟩ := ih l' _ r _ h2 hnew hr
          refine ⟨cells', ?_, g2⟩
          rw [Instr.fill]
          simp only [hf]
          rw [if_neg]
          · exact g1
          · simp only [Bool.or_eq_true, decide_eq_true_eq, not_or]
            omega

theorem zero_ok (hE : EnvOk E P) {t : TypeId} {i : TI} (hi : E.tab.get t = some i) {z : List C} (hz : i.zero = some z) :
    ∃ v, (∀ w : World, (zeroValue t).run P w = .ok v w) ∧ (∀ w, mkW i.isAgg z = some w → WRel ρ w v) ∧ LRel ρ z v.cells.toList := by
  obtain ⟨f, f1, _, _, _, _, _, f7⟩ := hE.tab t i hi
  obtain ⟨v, g1, g2⟩ := f7 z hz
  exact ⟨v, fun w => run_zero f1 g1, (g2 ρ).1, (g2 ρ).2⟩

theorem places_ok (hE : EnvOk E P) : ∀ (fs : List Field) (pl : List (Nat × Nat)), placesOf E fs = some pl → fs.mapM (fun f => (P.info? f.type).map fun i => (f.offset, i.size)) = some pl
  | [], pl, h => by simp only [placesOf, Option.some.injEq] at h; subst h; simp
  | f :: fs, pl, h => by
    simp only [placesOf] at h
    cases hi : E.tab.get f.type with
    | none => rw [hi] at h; cases h
    | some j =>
      rw [hi] at h
      simp only [] at h
      cases hr : placesOf E fs with
      | none => rw [hr] at h; cases h
      | some r =>
        rw [hr] at h
        cases h
        obtain ⟨g, g1, g2, _⟩ := hE.tab _ _ hi
        have := places_ok hE fs r hr
        simp [List.mapM_cons, g1, g2, this]

theorem build_ok (hE : EnvOk E P) {t : TypeId} {ps : Array (Nat × Operand)} (ho : ∀ x ∈ ps.toList, OpRel ρ a e x.2) {v : V} (hr : rBuild E a t ps.toList = some v) :
    ∃ u, (Instr.build t (ps.map fun (i, x) => (i, e x))).run P w = .ok u w ∧ VRel ρ v u := by
  unfold rBuild at hr
  cases h1 : partsOf a ps.toList with
  | none => rw [h1] at hr; cases hr
  | some l =>
    rw [h1] at hr
    simp only [] at hr
    obtain ⟨r, hq, rfl⟩ := obW hr
    clear hr
    have hps := parts_ok ps.toList l ho h1
    have hpl : (ps.map fun (i, x) => (i, e x)).toList = ps.toList.map fun x => (x.1, e x.2) := by simp
    unfold build at hq
    cases hi : E.tab.get t with
    | none => rw [hi] at hq; cases hq
    | some i =>
      rw [hi] at hq
      simp only [] at hq
      cases hz : i.zero with
      | none => rw [hz] at hq; cases hq
      | some z =>
        rw [hz] at hq
        simp only [] at hq
        obtain ⟨f, f1, f2, f3, f4, _, _, f7⟩ := hE.tab t i hi
        obtain ⟨zv, z1, z2⟩ := f7 z hz
        cases hu : i.und <;> rw [hu] at hq <;> simp only [] at hq <;> try (cases hq; done)
        case struct fs =>
          rw [hu] at f4
          cases hp : placesOf E fs.toList with
          | none => rw [hp] at hq; cases hq
          | some pl =>
            rw [hp] at hq
            simp only [] at hq
            cases hfl : fillL (fun k => pl[k]?) z l with
            | none => rw [hfl] at hq; cases hq
            | some r' =>
              rw [hfl] at hq
              cases hq
              obtain ⟨cells, g1, g2⟩ := fill_ok _ l _ z r' zv.cells hps (z2 ρ).2 hfl
              have hb : P.built t (ps.map fun (i, x) => (i, e x)).toList = some cells := by
                unfold Program.built
                rw [f1, f4]
                simp only [z1, places_ok hE _ _ hp, hpl]
                rw [← g1]; congr 1; funext k; simp
              exact ⟨.agg cells, run_build w t _ cells hb, ⟨cells, rfl, g2⟩⟩
        case array n el =>
          rw [hu] at f4
          cases hj : E.tab.get el with
          | none => rw [hj] at hq; cases hq
          | some j =>
            rw [hj] at hq
            simp only [] at hq
            obtain ⟨fe, e1, e2, _⟩ := hE.tab el j hj
            cases hfl : fillL (fun k => some (Nat.mul k j.size, j.size)) z l with
            | none => rw [hfl] at hq; cases hq
            | some r' =>
              rw [hfl] at hq
              cases hq
              obtain ⟨cells, g1, g2⟩ := fill_ok _ l _ z r' zv.cells hps (z2 ρ).2 hfl
              have hb : P.built t (ps.map fun (i, x) => (i, e x)).toList = some cells := by
                unfold Program.built
                rw [f1, f4]
                simp only [z1, e1, hpl, e2]
                exact g1
              exact ⟨.agg cells, run_build w t _ cells hb, ⟨cells, rfl, g2⟩⟩

theorem bound_ok {v : Option Value} {c : Option C} {d y m : Nat} (hv : ∀ k, c = some k → ∃ u, v = some u ∧ CRel ρ k u) (hn : c = none → v = none) (h : bound c d y = some m) (code : BoundsCode) :
    (match v with | some u => Instr.sliceBound u y code | none => (pure d : Sem Nat)).run P w = .ok m w ∧ (c = none → m = d) ∧ (c ≠ none → m ≤ y) := by
  cases c with
  | none => rw [hn rfl]; simp only [bound, Option.some.injEq] at h; subst h; exact ⟨rfl, fun _ => rfl, fun h => absurd rfl h⟩
  | some k =>
    obtain ⟨u, rfl, hk⟩ := hv k rfl
    cases k <;> try (simp only [bound] at h; cases h; done)
    rename_i kk i
    have hu : u = .int kk i := hk
    subst hu
    obtain ⟨rfl, hm⟩ := inB_some h
    refine ⟨?_, (fun h => by simp at h), fun _ => by omega⟩
    have hc : (0 : Int) ≤ (m : Int) ∧ (m : Int) ≤ (y : Int) := by omega
    simp only [Instr.sliceBound, asIntOf, Sem.run_bind, Sem.run_pure, Result.andThen_ok, hc, and_self, if_true, Int.toNat_natCast]

theorem cut3_ok {lo hi mx : Option Value} {cl ch cm : Option C} {n c l h m : Nat} {isSlice : Bool} (hl : (∀ k, cl = some k → ∃ u, lo = some u ∧ CRel ρ k u) ∧ (cl = none → lo = none))
    (hh : (∀ k, ch = some k → ∃ u, hi = some u ∧ CRel ρ k u) ∧ (ch = none → hi = none)) (hm : (∀ k, cm = some k → ∃ u, mx = some u ∧ CRel ρ k u) ∧ (cm = none → mx = none))
    (hcm : cm ≠ none → ch ≠ none) (hcut : cut3 cl ch cm n c = some (l, h, m)) (hnc : n ≤ c) :
    (Instr.sliceBounds isSlice n c lo hi mx).run P w = .ok (l, h, m) w ∧ l ≤ h ∧ m ≤ c ∧ (ch = none → h = n) ∧ (cm = none → m = c) ∧ h ≤ m := by
  unfold cut3 at hcut
  cases h1 : bound cm c c with
  | none => rw [h1] at hcut; cases hcut
  | some m' =>
    rw [h1] at hcut
    simp only [] at hcut
    cases h2 : bound ch n m' with
    | none => rw [h2] at hcut; cases hcut
    | some h' =>
      rw [h2] at hcut
      simp only [] at hcut
      cases h3 : bound cl 0 h' with
      | none => rw [h3] at hcut; cases hcut
      | some l' =>
        rw [h3] at hcut
        cases hcut
        have hmle : m ≤ c := by
          cases cm with
          | none => simp only [bound, Option.some.injEq] at h1; omega
          | some k => exact (bound_ok (P := P) (w := w) (v := mx) hm.1 hm.2 h1 .index).2.2 (by simp)
        have hhle : h ≤ m := by
          cases ch with
          | none =>
            have : cm = none := by cases cm with | none => rfl | some _ => exact absurd rfl (hcm (by simp))
            subst this
            simp only [bound, Option.some.injEq] at h1 h2; omega
          | some k => exact (bound_ok (P := P) (w := w) (v := hi) hh.1 hh.2 h2 .index).2.2 (by simp)
        have hlle : l ≤ h := by
          cases cl with
          | none => simp only [bound, Option.some.injEq] at h3; omega
          | some k => exact (bound_ok (P := P) (w := w) (v := lo) hl.1 hl.2 h3 .index).2.2 (by simp)
        refine ⟨?_, hlle, hmle, fun hn => by rw [hn] at h2; simp only [bound, Option.some.injEq] at h2; exact h2.symm, fun hn => by rw [hn] at h1; simp only [bound, Option.some.injEq] at h1; exact h1.symm, hhle⟩
        unfold Instr.sliceBounds
        cases cm with
        | none =>
          rw [hm.2 rfl]
          have e1 : m = c := by simp only [bound, Option.some.injEq] at h1; exact h1.symm
          subst e1
          simp only [Sem.run_bind, Sem.run_pure, Result.andThen_ok]
          have b2 := (bound_ok (P := P) (w := w) (v := hi) hh.1 hh.2 h2 (if isSlice then .sliceAcap else .sliceAlen)).1
          have b3 := (bound_ok (P := P) (w := w) (v := lo) hl.1 hl.2 h3 .sliceB).1
          cases hi <;> cases lo <;> simp only [Sem.run_bind, Sem.run_pure, Result.andThen_ok, Option.isSome_none, Bool.false_eq_true, if_false] at b2 b3 ⊢
          · cases b2; cases b3; rfl
          · cases b2; rw [b3]; rfl
          · rw [b2]; cases b3; rfl
          · rw [b2]; simp only [Result.andThen_ok]; rw [b3]; rfl
        | some k =>
          obtain ⟨u, rfl, hk⟩ := hm.1 k rfl
          have b1 := (bound_ok (P := P) (w := w) (v := some u) hm.1 hm.2 h1 (if isSlice then .slice3Acap else .slice3Alen)).1
          cases ch with
          | none => exact absurd rfl (hcm (by simp))
          | some k2 =>
            obtain ⟨u2, rfl, hk2⟩ := hh.1 k2 rfl
            have b2 := (bound_ok (P := P) (w := w) (v := some u2) hh.1 hh.2 h2 .slice3B).1
            have b3 := (bound_ok (P := P) (w := w) (v := lo) hl.1 hl.2 h3 .slice3C).1
            simp only [Sem.run_bind, Result.andThen_ok] at b1 b2 ⊢
            rw [b1]
            simp only [Result.andThen_ok]
            rw [b2]
            cases lo <;> simp only [Sem.run_bind, Sem.run_pure, Result.andThen_ok, Option.isSome_some, if_true] at b3 ⊢ <;> (try rw [b3]) <;> (try simp only [Result.andThen_ok]) <;> (try (cases b3)) <;> rfl

end
end Ev

set_option linter.unusedVariables false
set_option linter.unusedSimpArgs false
namespace Ev
open Go

section
variable {P : Program} {w : World} {E : Env} {ρ : Mp} {a : A} {e : Operand → Value} {x y : Operand}

def OptOk (ρ : Mp) (o : Option Value) (c : Option C) : Prop :=
  (∀ k, c = some k → ∃ u, o = some u ∧ CRel ρ k u) ∧ (c = none → o = none)
theorem optC_ok {o : Option Operand} {c : Option C} (ho : ∀ x, o = some x → OpRel ρ a e x) (h : optC a o = some c) : OptOk ρ (o.map e) c := by
  cases o with
  | none => simp only [optC, Option.some.injEq] at h; subst h; exact ⟨fun k hk => (by cases hk), fun _ => rfl⟩
  | some x =>
    simp only [optC] at h
    cases h1 : opC a x with
    | none => rw [h1] at h; cases h
    | some d =>
      rw [h1] at h
      simp only [Option.some.injEq] at h
      subst h
      exact ⟨fun k hk => (by cases hk; exact ⟨e x, rfl, toC_rel (ho x rfl) h1⟩), fun hk => (by cases hk)⟩

theorem inB_mono {i : Int} {n n' m : Nat} (h : inB i n = some m) (hn : n ≤ n') : inB i n' = some m := by
  obtain ⟨rfl, hm⟩ := inB_some h
  show (match Nat.ble (Nat.succ m) n' with | true => some m | false => none) = some m
  rw [Nat.ble_eq_true_of_le (by omega)]
theorem bound_mono {c : Option C} {d y y' m : Nat} (h : bound c d y = some m) (hy : y ≤ y') : bound c d y' = some m := by
  cases c with
  | none => exact h
  | some k => cases k <;> first | exact inB_mono h (by omega) | (simp only [bound] at h; cases h)
theorem cut3_mono {cl ch cm : Option C} {n K C l h m : Nat} (hcut : cut3 cl ch cm n K = some (l, h, m)) (hK : K ≤ C) :
    ∃ m', cut3 cl ch cm n C = some (l, h, m') ∧ (cm ≠ none → m' = m) ∧ (cm = none → m' = C) := by
  unfold cut3 at hcut
  cases h1 : bound cm K K with
  | none => rw [h1] at hcut; cases hcut
  | some m1 =>
    rw [h1] at hcut
    simp only [] at hcut
    cases h2 : bound ch n m1 with
    | none => rw [h2] at hcut; cases hcut
    | some h' =>
      rw [h2] at hcut
      simp only [] at hcut
      cases h3 : bound cl 0 h' with
      | none => rw [h3] at hcut; cases hcut
      | some l' =>
        rw [h3] at hcut
        cases hcut
        cases cm with
        | none =>
          simp only [bound, Option.some.injEq] at h1
          subst h1
          refine ⟨C, ?_, fun h => absurd rfl h, fun _ => rfl⟩
          unfold cut3
          rw [show bound none C C = some C from rfl]
          simp only []
          rw [bound_mono h2 hK]
          simp only []
          rw [h3]
        | some k =>
          refine ⟨m, ?_, fun _ => rfl, fun h => by cases h⟩
          unfold cut3
          have : bound (some k) C C = some m := by
            have := bound_mono h1 hK
            cases k <;> first | exact this | (simp only [bound] at this; cases this)
          rw [this]
          simp only [h2, h3]

theorem noHi_false {hi mx : Option C} (h : noHi hi mx = false) : mx ≠ none → hi ≠ none := by
  cases mx <;> cases hi <;> simp [noHi] at h ⊢

theorem cutSl_some {b o z : Nat} {r : Option (Nat × Nat × Nat)} {d : C} (h : cutSl b o z r = some d) :
    ∃ l hh m, r = some (l, hh, m) ∧ d = .sl b (if m = l then o else o + l * z) (hh - l) (some (m - l)) z := by
  cases r with
  | none => cases h
  | some p =>
    obtain ⟨l, hh, m⟩ := p
    refine ⟨l, hh, m, rfl, ?_⟩
    simp only [cutSl, Option.some.injEq] at h
    rw [← h]
    cases hb : Nat.beq m l with
    | true => rw [if_pos (Nat.eq_of_beq_eq_true hb)]; rfl
    | false => rw [if_neg (by intro hml; subst hml; simp at hb)]; rfl

theorem cut_sl {p : Place} {b o c l h m z : Nat} (hp : ρ b = some p) (hz : 0 < z) (hlh : l ≤ h) (hmc : m ≤ c) (hhm : h ≤ m) (hk : o + c * z ≤ p.kn) (ht : p.o + o + c * z ≤ p.tot) :
    CRel ρ (.sl b (if m = l then o else o + l * z) (h - l) (some (m - l)) z) (.slice (some (if m = l then ⟨p.c, p.o + o, none⟩ else (⟨p.c, p.o + o, none⟩ : Addr).add (l * z))) (h - l) (m - l)) := by
  have e1 : m * z ≤ c * z := Nat.mul_le_mul_right z hmc
  have e2 : l * z + (m - l) * z = m * z := by rw [← Nat.add_mul]; congr 1; omega
  have e3 : l * z + (h - l) * z = h * z := by rw [← Nat.add_mul]; congr 1; omega
  have e4 : h * z ≤ m * z := Nat.mul_le_mul_right z hhm
  by_cases hml : m = l
  · have : h = l := by omega
    subst hml; subst this
    simp only [if_true, Nat.sub_self]
    refine ⟨p, _, _, hp, rfl, ⟨hz, by omega, fun k hk' => ?_, fun hk' => (by cases hk'), by omega, by omega⟩⟩
    cases hk'; exact ⟨rfl, by omega, rfl⟩
  · simp only [if_neg hml, add_at]
    refine ⟨p, _, _, hp, rfl, ⟨hz, by omega, fun k hk' => ?_, fun hk' => (by cases hk'), by omega, by omega⟩⟩
    cases hk'; exact ⟨rfl, by omega, by simp; omega⟩

theorem slice_ok (hE : EnvOk E P) {look : Look} (h : Sees ρ look w.heap) (hx : OpRel ρ a e x) {t : TypeId} {lo hi mx : Option Operand}
    (hlo : ∀ x, lo = some x → OpRel ρ a e x) (hhi : ∀ x, hi = some x → OpRel ρ a e x) (hmx : ∀ x, mx = some x → OpRel ρ a e x) {v : V} (hr : rSlice E look a t x lo hi mx = some v) :
    ∃ u, (Instr.sliceAt t (e x) (lo.map e) (hi.map e) (mx.map e)).run P w = .ok u w ∧ VRel ρ v u := by
  unfold rSlice at hr
  cases hc : opC a x with
  | none => rw [hc] at hr; cases hr
  | some c =>
    rw [hc] at hr
    simp only [] at hr
    cases h1 : optC a lo with
    | none => rw [h1] at hr; cases hr
    | some cl =>
      rw [h1] at hr
      simp only [] at hr
      cases h2 : optC a hi with
      | none => rw [h2] at hr; cases hr
      | some ch =>
        rw [h2] at hr
        simp only [] at hr
        cases h3 : optC a mx with
        | none => rw [h3] at hr; cases hr
        | some cm =>
          rw [h3] at hr
          simp only [] at hr
          cases h4 : noHi ch cm with
          | true => rw [h4] at hr; cases hr
          | false =>
            rw [h4] at hr
            simp only [] at hr
            obtain ⟨d, hd, rfl⟩ := obC hr
            clear hr
            have hcx := toC_rel hx hc
            have o1 := optC_ok hlo h1
            have o2 := optC_ok hhi h2
            have o3 := optC_ok hmx h3
            have hno := noHi_false h4
            clear h1 h2 h3 h4 hlo hhi hmx
            generalize lo.map e = lo' at o1 ⊢
            generalize hi.map e = hi' at o2 ⊢
            generalize mx.map e = mx' at o3 ⊢
            unfold slice at hd
            cases hu : undT E t with
            | none => rw [hu] at hd; cases hd
            | some ty =>
              rw [hu] at hd
              have hu' := (undT_some hE hu).1
              have arr : ∀ (b o n el z : Nat) (p : Place) (d : C), ρ b = some p → sizeT E el = some z → cutArr look b o n z (cut3 cl ch cm n n) = some d → ∃ l h m,
                  (Instr.sliceBounds false n n lo' hi' mx').run P w = .ok (l, h, m) w ∧ (Go.sizeOf el).run P w = .ok z w ∧ CRel ρ d (.slice (some (if m = l then ⟨p.c, p.o + o, none⟩ else (⟨p.c, p.o + o, none⟩ : Addr).add (l * z))) (h - l) (m - l)) := by
                intro b o n el z p d hp hz hq
                unfold cutArr at hq
                cases hro : rowOf look b with
                | none => rw [hro] at hq; cases hq
                | some r =>
                  rw [hro] at hq
                  simp only [] at hq
                  cases hb : and (Nat.ble 1 z) (Nat.ble (Nat.add o (Nat.mul n z)) r.n) with
                  | false => rw [hb] at hq; cases hq
                  | true =>
                    rw [hb] at hq
                    simp only [] at hq
                    rw [Bool.and_eq_true] at hb
                    have hz1 : 1 ≤ z := Nat.le_of_ble_eq_true hb.1
                    have hle : o + n * z ≤ r.n := Nat.le_of_ble_eq_true hb.2
                    obtain ⟨l, hh, m, hcut, rfl⟩ := cutSl_some hq
                    obtain ⟨k1, k2, k3, _, _, k4⟩ := cut3_ok (P := P) (w := w) (isSlice := false) o1 o2 o3 hno hcut (Nat.le_refl n)
                    obtain ⟨ob, q2, q3⟩ := h.row b _ p (rowOf_some hro) rfl hp
                    obtain ⟨av, el', fz, _, hrow⟩ := q3
                    obtain ⟨f, f1, f2⟩ := sizeT_some hE hz
                    have hkn := hrow.kn
                    have hrl := hrow.le
                    refine ⟨l, hh, m, k1, by rw [run_size f1, f2], cut_sl hp hz1 k2 k3 k4 (by omega) (by omega)⟩
              cases ty <;> try (cases hd; done)
              case string =>
                cases c <;> try (cases hd; done)
                rename_i s
                simp only [] at hd
                cases cm with
                | some _ => cases hd
                | none =>
                  rw [o3.2 rfl]
                  cases hq : cut3 cl ch none s.len s.len with
                  | none => rw [hq] at hd; cases hd
                  | some r =>
                    obtain ⟨l, hh, m⟩ := r
                    rw [hq] at hd
                    simp only [cutStr, Option.some.injEq] at hd
                    subst hd
                    obtain ⟨bs, ex, rfl⟩ := hcx
                    obtain ⟨k1, k2, k3, k5, k6, k4⟩ := cut3_ok (P := P) (w := w) (mx := none) (isSlice := false) o1 o2 ⟨fun k hk => (by cases hk), fun _ => rfl⟩ (fun hk => absurd rfl hk) hq (Nat.le_refl _)
                    refine ⟨.string (bs.extract l hh), ?_, ⟨_, rfl, ?_⟩⟩
                    · unfold Instr.sliceAt
                      simp only [Sem.run_bind, run_und hu', Result.andThen_ok, ex]
                      unfold Instr.slice
                      rw [str_len] at k1
                      simp [run_und hu', k1]
                    · rw [str_len] at k3 k6
                      rw [Str.of_eq, Str.sub_ofL _ _ _ k2 (by have := k6 rfl; simp at *; omega), Str.of_eq]
                      congr 1
                      simp [ByteArray.extract, ByteArray.copySlice, List.extract_eq_take_drop]
              case slice el =>
                cases c <;> try (cases hd; done)
                case nils =>
                  simp only [] at hd
                  cases hz : sizeT E el with
                  | none => rw [hz] at hd; cases hd
                  | some z =>
                    rw [hz] at hd
                    simp only [] at hd
                    cases hq : cut3 cl ch cm 0 0 with
                    | none => rw [hq] at hd; cases hd
                    | some r =>
                      obtain ⟨l, hh, m⟩ := r
                      rw [hq] at hd
                      cases hd
                      obtain ⟨k1, k2, k3, _, _, k4⟩ := cut3_ok (P := P) (w := w) (isSlice := true) o1 o2 o3 hno hq (Nat.le_refl 0)
                      obtain ⟨f, f1, f2⟩ := sizeT_some hE hz
                      have ex : e x = .slice none 0 0 := hcx
                      refine ⟨.slice none 0 0, ?_, rfl⟩
                      unfold Instr.sliceAt
                      simp only [Sem.run_bind, run_und hu', Result.andThen_ok, ex]
                      unfold Instr.slice
                      simp only [Sem.run_bind, run_und hu', Result.andThen_ok, k1, run_size f1, Sem.run_pure, Option.map_none, ite_self]
                      congr 2 <;> omega
                case dat z els =>
                  simp only [] at hd
                  cases hz : sizeT E el with
                  | none => rw [hz] at hd; cases hd
                  | some z' =>
                    rw [hz] at hd
                    simp only [] at hd
                    cases hzz : Nat.beq z' z with
                    | false => rw [hzz] at hd; cases hd
                    | true =>
                      rw [hzz] at hd
                      simp only [] at hd
                      have hzz' := Nat.eq_of_beq_eq_true hzz
                      subst hzz'
                      obtain ⟨f, f1, f2⟩ := sizeT_some hE hz
                      rw [lenA_zero] at hd
                      cases hq : cut3 cl ch cm els.length els.length with
                      | none => rw [hq] at hd; cases hd
                      | some q =>
                        obtain ⟨l, hh, m⟩ := q
                        rw [hq] at hd
                        simp only [cutDat, Option.some.injEq] at hd
                        subst hd
                        have hcx' : DRel ρ.m (.sl z' els) (e x) := hcx
                        obtain ⟨ad, c0, o0, cap, vs, ex, w0, w1, w2, w3, w4, w5⟩ : ∃ (ad : Addr) (c0 o0 cap : Nat) (vs : Nat → Nat → Value), e x = .slice (some ad) els.length cap ∧ (0 < els.length → ad = ⟨c0, o0, none⟩) ∧ els.length ≤ cap ∧ 1 ≤ z' ∧ (∀ (i : Nat) e, els[i]? = some e → e.length = z') ∧
                            (∀ (i : Nat) e (j : Nat) d, els[i]? = some e → e[j]? = some d → ρ.m c0 (o0 + (i * z' + j)) = some (vs i j)) ∧ (∀ (i : Nat) e (j : Nat) d, els[i]? = some e → e[j]? = some d → DRel ρ.m d (vs i j)) := by
                          generalize e x = ex at hcx'
                          cases hcx' with
                          | sl _ _ ad c o cap vs w0 w1 w2 w3 w4 w5 => exact ⟨ad, c, o, cap, vs, rfl, w0, w1, w2, w3, w4, w5⟩
                        obtain ⟨m', hcut', _, _⟩ := cut3_mono hq w1
                        obtain ⟨k1, k2, k3, _, _, k4⟩ := cut3_ok (P := P) (w := w) (isSlice := true) o1 o2 o3 hno hcut' w1
                        obtain ⟨_, _, k3', _, _, k6⟩ := cut3_ok (P := P) (w := w) (isSlice := true) o1 o2 o3 hno hq (Nat.le_refl _)
                        have k6' : hh ≤ els.length := Nat.le_trans k6 k3'
                        refine ⟨.slice (if m' = l then some ad else some (ad.add (l * z'))) (hh - l) (m' - l), ?_, ?_⟩
                        · unfold Instr.sliceAt
                          simp only [Sem.run_bind, run_und hu', Result.andThen_ok, ex]
                          unfold Instr.slice
                          simp only [Sem.run_bind, run_und hu', Result.andThen_ok, k1, run_size f1, Sem.run_pure, Option.map_some, f2]
                        · show DRel ρ.m (.sl z' ((els.drop l).take (Nat.sub hh l))) _
                          have hlen : ((els.drop l).take (Nat.sub hh l)).length = hh - l := by
                            rw [List.length_take, List.length_drop]
                            show min (hh - l) (els.length - l) = hh - l
                            omega
                          have hidx : ∀ (i : Nat) (e : List D), ((els.drop l).take (Nat.sub hh l))[i]? = some e → i < hh - l ∧ els[l + i]? = some e := by
                            intro i e hi
                            have h1 := (List.getElem?_eq_some_iff.1 hi).1
                            rw [hlen] at h1
                            have h1' : i < Nat.sub hh l := h1
                            rw [List.getElem?_take, if_pos h1', List.getElem?_drop] at hi
                            exact ⟨h1, hi⟩
                          by_cases hml : m' = l
                          · rw [if_pos hml]
                            have := DRel.sl (m := ρ.m) z' ((els.drop l).take (Nat.sub hh l)) ad c0 o0 (m' - l) (fun i j => vs (l + i) j) (by rw [hlen]; intro; omega) (by rw [hlen]; omega) w2 (fun i e hi => w3 _ e (hidx i e hi).2)
                              (fun i e j d hi hj => by have := (hidx i e hi).1; omega) (fun i e j d hi hj => w5 _ e j d (hidx i e hi).2 hj)
                            rw [hlen] at this
                            exact this
                          · rw [if_neg hml]
                            have := DRel.sl (m := ρ.m) z' ((els.drop l).take (Nat.sub hh l)) (ad.add (l * z')) c0 (o0 + l * z') (m' - l) (fun i j => vs (l + i) j) (by rw [hlen]; intro; rw [w0 (by omega), add_at]) (by rw [hlen]; omega) w2 (fun i e hi => w3 _ e (hidx i e hi).2)
                              (fun i e j d hi hj => by
                                have := w4 _ e j d (hidx i e hi).2 hj
                                rw [Nat.add_mul] at this
                                rw [show o0 + l * z' + (i * z' + j) = o0 + (l * z' + i * z' + j) by omega]
                                exact this) (fun i e j d hi hj => w5 _ e j d (hidx i e hi).2 hj)
                            rw [hlen] at this
                            exact this
                case sl b o n cap z =>
                  simp only [] at hd
                  cases hz : sizeT E el with
                  | none => rw [hz] at hd; cases hd
                  | some z' =>
                    rw [hz] at hd
                    simp only [] at hd
                    cases hzz : Nat.beq z' z with
                    | false => rw [hzz] at hd; cases hd
                    | true =>
                      rw [hzz] at hd
                      simp only [] at hd
                      have hzz' := Nat.eq_of_beq_eq_true hzz
                      subst hzz'
                      obtain ⟨f, f1, f2⟩ := sizeT_some hE hz
                      obtain ⟨p, ad, cp, hp, ex, hs⟩ := hcx
                      have hzp := hs.zpos
                      have main : ∀ l hh m, (Instr.sliceBounds true n cp lo' hi' mx').run P w = .ok (l, hh, m) w →
                          (Instr.sliceAt t (e x) lo' hi' mx').run P w = .ok (.slice (if m = l then some ad else some (ad.add (l * z'))) (hh - l) (m - l)) w := by
                        intro l hh m hb
                        unfold Instr.sliceAt
                        simp only [Sem.run_bind, run_und hu', Result.andThen_ok, ex]
                        unfold Instr.slice
                        simp only [Sem.run_bind, run_und hu', Result.andThen_ok, hb, run_size f1, Sem.run_pure, Option.map_some, f2]
                      unfold cutSome at hd
                      cases cap with
                      | some cc =>
                        simp only [] at hd
                        obtain ⟨l, hh, m, hcut, rfl⟩ := cutSl_some hd
                        obtain ⟨rfl, g2, rfl⟩ := hs.ex _ rfl
                        obtain ⟨k1, k2, k3, _, _, k4⟩ := cut3_ok (P := P) (w := w) (isSlice := true) o1 o2 o3 hno hcut hs.le
                        refine ⟨_, main l hh m k1, ?_⟩
                        have := cut_sl hp hzp k2 k3 k4 g2 hs.tot
                        rw [apply_ite some] at this
                        exact this
                      | none =>
                        simp only [] at hd
                        unfold cutOpen at hd
                        cases hro : rowOf look b with
                        | none => rw [hro] at hd; cases hd
                        | some r =>
                          rw [hro] at hd
                          simp only [] at hd
                          obtain ⟨ob, q2, q3⟩ := h.row b _ p (rowOf_some hro) rfl hp
                          obtain ⟨av, el', fz, _, hrow⟩ := q3
                          have hkn := hrow.kn
                          obtain ⟨g1, g2⟩ := hs.op rfl
                          have hsk := hs.kn
                          have hst := hs.tot
                          have hnK : n ≤ (r.n - o) / z' := by
                            rw [Nat.le_div_iff_mul_le hzp]; omega
                          have hKz : (r.n - o) / z' * z' ≤ r.n - o := Nat.div_mul_le_self _ _
                          have hKc : (r.n - o) / z' ≤ cp := by
                            have : (r.n - o) / z' * z' ≤ cp * z' := by omega
                            exact Nat.le_of_mul_le_mul_right this hzp
                          have hKz2 : (r.n - o) / z' * z' ≤ cp * z' := Nat.mul_le_mul_right z' hKc
                          have hdiv : Nat.div (Nat.sub r.n o) z' = (r.n - o) / z' := rfl
                          rw [hdiv] at hd
                          generalize (r.n - o) / z' = K at hd hnK hKz hKc hKz2
                          clear hdiv
                          cases cm with
                          | some km =>
                            simp only [] at hd
                            cases hb1 : Nat.ble 1 K with
                            | false => rw [hb1] at hd; cases hd
                            | true =>
                              rw [hb1] at hd
                              simp only [] at hd
                              have hK1 : 1 ≤ K := Nat.le_of_ble_eq_true hb1
                              obtain ⟨l, hh, m, hcut, rfl⟩ := cutSl_some hd
                              obtain ⟨m', hcut', hm', _⟩ := cut3_mono hcut hKc
                              have hmm := hm' (by simp)
                              subst hmm
                              obtain ⟨k1, k2, _, _, _, k4⟩ := cut3_ok (P := P) (w := w) (isSlice := true) o1 o2 o3 hno hcut' hs.le
                              obtain ⟨_, _, k3, _⟩ := cut3_ok (P := P) (w := w) (isSlice := true) o1 o2 o3 hno hcut hnK
                              have had := sl_ad hs (by omega)
                              subst had
                              refine ⟨_, main l hh m' k1, ?_⟩
                              have k3' : m' ≤ K := k3
                              have := cut_sl (o := o) hp hzp k2 k3' k4 (by omega) (by omega)
                              rw [apply_ite some] at this
                              exact this
                          | none =>
                            simp only [] at hd
                            cases hq : cut3 cl ch none n K with
                            | none => rw [hq] at hd; cases hd
                            | some q =>
                              obtain ⟨l, hh, m⟩ := q
                              rw [hq] at hd
                              simp only [Option.some.injEq] at hd
                              subst hd
                              obtain ⟨m', hcut', _, hm'⟩ := cut3_mono hq hKc
                              have hmm := hm' rfl
                              subst hmm
                              obtain ⟨k1, k2, _, _, _, k4⟩ := cut3_ok (P := P) (w := w) (isSlice := true) o1 o2 o3 hno hcut' hs.le
                              obtain ⟨_, _, k3, _, k5, k6⟩ := cut3_ok (P := P) (w := w) (isSlice := true) o1 o2 o3 hno hq hnK
                              have hmK : m = K := k5 rfl
                              have e2 : l * z' + (m' - l) * z' = m' * z' := by rw [← Nat.add_mul]; congr 1; omega
                              have e3 : l * z' + (hh - l) * z' = hh * z' := by rw [← Nat.add_mul]; congr 1; omega
                              have e4 : hh * z' ≤ m * z' := Nat.mul_le_mul_right z' k6
                              rw [hmK] at e4
                              refine ⟨_, main l hh m' k1, ?_⟩
                              refine ⟨p, if m' = l then ad else ad.add (l * z'), m' - l, hp, by split <;> rfl, ⟨hzp, ?_, (fun k hk => by cases hk), fun _ => ⟨?_, ?_⟩, ?_, ?_⟩⟩
                              · show hh - l ≤ m' - l
                                omega
                              · show p.kn ≤ o + l * z' + (m' - l) * z'
                                omega
                              · by_cases hml : m' = l
                                · right; omega
                                · left
                                  rw [if_neg hml, g2.resolve_right (by omega), add_at]
                                  show (⟨p.c, p.o + o + l * z', none⟩ : Addr) = ⟨p.c, p.o + (o + l * z'), none⟩
                                  rw [Nat.add_assoc]
                              · show p.o + (o + l * z') + (m' - l) * z' ≤ p.tot
                                omega
                              · show o + l * z' + (hh - l) * z' ≤ p.kn
                                omega
              case array n el =>
                cases c <;> try (cases hd; done)
                rename_i b o
                simp only [] at hd
                cases hz : sizeT E el with
                | none => rw [hz] at hd; cases hd
                | some z =>
                  rw [hz] at hd
                  simp only [] at hd
                  obtain ⟨p, hp, ex⟩ := hcx
                  obtain ⟨l, hh, m, k1, k2, k3⟩ := arr b o n el z p d hp hz hd
                  refine ⟨_, ?_, k3⟩
                  unfold Instr.sliceAt
                  simp only [Sem.run_bind, run_und hu', Result.andThen_ok, ex, Instr.sureAddr, Sem.run_pure, k1, k2]
              case pointer q =>
                cases c <;> try (cases hd; done)
                rename_i b o
                simp only [] at hd
                cases hq : undT E q with
                | none => rw [hq] at hd; cases hd
                | some tq =>
                  rw [hq] at hd
                  have hq' := (undT_some hE hq).1
                  cases tq <;> try (cases hd; done)
                  rename_i n el
                  simp only [] at hd
                  cases hz : sizeT E el with
                  | none => rw [hz] at hd; cases hd
                  | some z =>
                    rw [hz] at hd
                    simp only [] at hd
                    obtain ⟨p, hp, ex⟩ := hcx
                    obtain ⟨l, hh, m, k1, k2, k3⟩ := arr b o n el z p d hp hz hd
                    refine ⟨_, ?_, k3⟩
                    unfold Instr.sliceAt
                    simp only [Sem.run_bind, run_und hu', Result.andThen_ok, ex]
                    unfold Instr.slice
                    simp only [Sem.run_bind, run_und hu', run_und hq', Result.andThen_ok, asAddr, Sem.run_pure, k1, k2]

end
end Ev

set_option linter.unusedVariables false
set_option linter.unusedSimpArgs false
namespace Ev
open Go

section
variable {P : Program} {w : World} {E : Env} {ρ : Mp} {a : A} {e : Operand → Value} {x y : Operand}

theorem strOfSl_ok (hE : EnvOk E P) {st : TypeDesc} {el : TypeId} {l : List C} {vs : List Value} (hl : LRel ρ l vs) {d : C} (h : strOfSl E (.slice el) l = some d) :
    ∃ bs : ByteArray, d = .str (Str.of bs) ∧ ((P.underlying el = some (.int .u8) ∧ ∃ ns : List Int, vs = ns.map (Value.int .u8) ∧ bs = ns.foldl (fun r n => r.push (UInt8.ofNat n.toNat)) ByteArray.empty) ∨
      (P.underlying el = some (.int .i32) ∧ ∃ ns : List Int, vs = ns.map (Value.int .i32) ∧ bs = runesBytes ns)) := by
  unfold strOfSl at h
  simp only [] at h
  cases hu : undT E el with
  | none => rw [hu] at h; cases h
  | some ty =>
    have hu' := (undT_some hE hu).1
    rw [hu] at h
    cases ty <;> (try simp only [] at h) <;> try (cases h; done)
    rename_i k
    cases k <;> (try simp only [] at h) <;> try (cases h; done)
    case u8 =>
      cases hz : strOfBytes l Str.nil with
      | none => rw [hz] at h; cases h
      | some z =>
        rw [hz] at h
        cases h
        obtain ⟨bs, rfl, rfl⟩ := strOfBytes_ok l vs ByteArray.empty z hl hz
        refine ⟨_, rfl, .inl ⟨hu', bs.map (fun b => (b.toNat : Int)), by simp, ?_⟩⟩
        rw [List.foldl_map]
        have key : ∀ (bs : List UInt8) (acc : ByteArray), (⟨acc.data ++ bs.toArray⟩ : ByteArray) = bs.foldl (fun r n => r.push (UInt8.ofNat (n.toNat : Int).toNat)) acc := by
          intro bs
          induction bs with
          | nil => intro acc; simp
          | cons b bs ih =>
            intro acc
            rw [List.foldl_cons, ← ih]
            simp [ByteArray.push]
        exact key bs _
    case i32 =>
      cases hz : strOfRunes l Str.nil with
      | none => rw [hz] at h; cases h
      | some z =>
        rw [hz] at h
        cases h
        obtain ⟨rs, rfl, rfl⟩ := strOfRunes_ok l vs ByteArray.empty z hl hz
        exact ⟨_, rfl, .inr ⟨hu', rs, rfl, rfl⟩⟩

theorem convert_ok (hE : EnvOk E P) {look : Look} (h : Sees ρ look w.heap) (hx : OpRel ρ a e x) {s d : TypeId} {v : V} (hr : rConvert E look a s d x = some v) :
    ∃ u, (Go.convert s d (e x)).run P w = .ok u w ∧ VRel ρ v u := by
  unfold rConvert at hr
  cases hc : opC a x with
  | none => rw [hc] at hr; cases hr
  | some c =>
    rw [hc] at hr
    simp only [] at hr
    obtain ⟨r, hq, rfl⟩ := obC hr
    clear hr
    have hcx := toC_rel hx hc
    unfold convert at hq
    cases h1 : undT E s with
    | none => rw [h1] at hq; cases hq
    | some ts =>
      rw [h1] at hq
      have h1' := (undT_some hE h1).1
      simp only [] at hq
      cases h2 : undT E d with
      | none => rw [h2] at hq; cases hq
      | some td =>
        rw [h2] at hq
        have h2' := (undT_some hE h2).1
        simp only [] at hq
        unfold convTo at hq
        cases td <;> simp only [] at hq <;> try (cases hq; done)
        case int k =>
          cases c <;> simp only [] at hq <;> try (cases hq; done)
          rename_i k' n
          rw [intC_eq, wrapK_eq] at hq
          cases hq
          have ex : e x = .int k' n := hcx
          refine ⟨.int k (k.wrap n), ?_, rfl⟩
          unfold Go.convert
          simp only [Sem.run_bind, run_und h1', run_und h2', Result.andThen_ok, ex]
          rfl
        case string =>
          cases c <;> simp only [] at hq <;> try (cases hq; done)
          case int k' n =>
            cases hq
            have ex : e x = .int k' n := hcx
            refine ⟨.string (Utf8.encode n), ?_, ⟨_, rfl, enc_eq n⟩⟩
            unfold Go.convert
            simp only [Sem.run_bind, run_und h1', run_und h2', Result.andThen_ok, ex]
            rfl
          case str z =>
            cases hq
            obtain ⟨bs, ex, rfl⟩ := hcx
            refine ⟨.string bs, ?_, ⟨_, rfl, rfl⟩⟩
            unfold Go.convert
            simp only [Sem.run_bind, run_und h1', run_und h2', Result.andThen_ok, ex]
            rfl
          case nils =>
            cases ts <;> try (simp only [strOfSl] at hq; cases hq; done)
            rename_i el
            obtain ⟨bs, rfl, hb⟩ := strOfSl_ok hE (st := .bool) (.nil : LRel ρ [] []) hq
            have ex : e x = .slice none 0 0 := hcx
            rw [ex]
            rcases hb with ⟨g1, ns, g2, rfl⟩ | ⟨g1, ns, g2, rfl⟩
            · have : ns = [] := by simpa using g2.symm
              subst this
              exact ⟨_, by rw [run_convert_bytes_string w s d el _ _ _ h1' g1 h2']; rfl, ⟨_, rfl, rfl⟩⟩
            · have : ns = [] := by simpa using g2.symm
              subst this
              exact ⟨_, by rw [run_convert_runes_string w s d el _ _ _ h1' g1 h2']; rfl, ⟨_, rfl, rfl⟩⟩
          case sl b o n cap z =>
            cases hl : readL look b o n with
            | none => rw [hl] at hq; cases hq
            | some l =>
              rw [hl] at hq
              simp only [] at hq
              cases ts <;> try (simp only [strOfSl] at hq; cases hq; done)
              rename_i el
              obtain ⟨p, ad, cp, hp, ex, hs⟩ := hcx
              obtain ⟨vs, hvs, hrun⟩ := run_readL (P := P) h hl hp
              have hrun' : (loadCells ad n).run P w = .ok vs.toArray w := by
                by_cases hn : n = 0
                · subst hn; exact hrun
                · rw [sl_ad hs (by have := hs.le; omega)]; exact hrun
              obtain ⟨bs, rfl, hb⟩ := strOfSl_ok hE (st := .bool) hvs hq
              rw [ex]
              rcases hb with ⟨g1, ns, rfl, rfl⟩ | ⟨g1, ns, rfl, rfl⟩
              · exact ⟨_, by rw [run_convert_bytes_string w s d el _ _ _ h1' g1 h2', run_bytesToString w ad n cp ns hrun'], ⟨_, rfl, rfl⟩⟩
              · exact ⟨_, by rw [run_convert_runes_string w s d el _ _ _ h1' g1 h2', run_runesToString w ad n cp ns hrun'], ⟨_, rfl, rfl⟩⟩
          case dat z l =>
            cases hz : Nat.beq z 1 with
            | false => rw [hz] at hq; cases hq
            | true =>
              rw [hz] at hq
              simp only [] at hq
              have hz1 : z = 1 := Nat.eq_of_beq_eq_true hz
              subst hz1
              cases ts <;> try (simp only [strOfSl] at hq; cases hq; done)
              rename_i el
              obtain ⟨ad, cp, vs, ex, _, hvs, _, hrun, _⟩ := run_dat (P := P) h.lies hcx
              rw [Nat.mul_one] at hrun
              obtain ⟨bs, rfl, hb⟩ := strOfSl_ok hE (st := .bool) hvs hq
              rw [ex]
              rcases hb with ⟨g1, ns, rfl, rfl⟩ | ⟨g1, ns, rfl, rfl⟩
              · exact ⟨_, by rw [run_convert_bytes_string w s d el _ _ _ h1' g1 h2', run_bytesToString w ad l.length cp ns hrun], ⟨_, rfl, rfl⟩⟩
              · exact ⟨_, by rw [run_convert_runes_string w s d el _ _ _ h1' g1 h2', run_runesToString w ad l.length cp ns hrun], ⟨_, rfl, rfl⟩⟩

theorem keyOk_some (hE : EnvOk E P) {kt : TypeId} {k : C} (h : keyOk E kt k = true) : ∃ d, P.underlying kt = some d ∧ (((∃ j, d = .int j) ∧ ∃ j n, k = .int j n) ∨ (d = .string ∧ ∃ s, k = .str s)) := by
  unfold keyOk at h
  cases hu : undT E kt with
  | none => rw [hu] at h; cases h
  | some d =>
    rw [hu] at h
    refine ⟨d, (undT_some hE hu).1, ?_⟩
    cases d <;> simp only [] at h <;> try (cases h; done)
    · cases k <;> simp only [] at h <;> try (cases h; done)
      exact .inl ⟨⟨_, rfl⟩, _, _, rfl⟩
    · cases k <;> simp only [] at h <;> try (cases h; done)
      exact .inr ⟨rfl, _, rfl⟩

theorem same_key {d : TypeDesc} {k c : C} {u v : Value} (hd : ((∃ j, d = .int j) ∧ ∃ j n, k = .int j n) ∨ (d = .string ∧ ∃ s, k = .str s)) (hk : CRel ρ k u) (hc : CRel ρ c v) :
    (∀ j a j' b, k = .int j a → c = .int j' b → kEq j j' = true → Instr.sameNow d u v = some (iEq a b) ∧ (iEq a b = true → v = u)) ∧
    (∀ a b, k = .str a → c = .str b → Instr.sameNow d u v = some (a.eq b) ∧ (a.eq b = true → v = u)) := by
  refine ⟨?_, ?_⟩
  · intro j a j' b hk' hc' hj
    subst hk' hc'
    have e1 : u = .int j a := hk
    have e2 : v = .int j' b := hc
    rw [kEq_iff] at hj
    subst e1 e2 hj
    rcases hd with ⟨⟨i, rfl⟩, _⟩ | ⟨_, s, hs⟩
    · simp only [Instr.sameNow, if_true]
      rw [iEq_eq]
      refine ⟨by simp [BEq.beq], fun h => by simp at h; rw [h]⟩
    · cases hs
  · intro a b hk' hc'
    subst hk' hc'
    obtain ⟨s, rfl, rfl⟩ := hk
    obtain ⟨t, rfl, rfl⟩ := hc
    rcases hd with ⟨_, _, _, hs⟩ | ⟨rfl, _⟩
    · cases hs
    · rw [str_eq]
      have hb : (s == t) = (s.toList == t.toList) := by
        rw [Bool.eq_iff_iff, MapKept.bytes_beq]
        simp only [beq_iff_eq, toList_eq]
        constructor
        · intro h; rw [h]
        · intro h; obtain ⟨⟨s⟩⟩ := s; obtain ⟨⟨t⟩⟩ := t; simp at h; rw [h]
      refine ⟨by simp only [Instr.sameNow, hb], fun h => ?_⟩
      rw [← hb, MapKept.bytes_beq] at h
      rw [h]

theorem find_ok {d : TypeDesc} {k : C} {u : Value} (hd : ((∃ j, d = .int j) ∧ ∃ j n, k = .int j n) ∨ (d = .string ∧ ∃ s, k = .str s)) (hk : CRel ρ k u) :
    ∀ (es : List (C × W)) (arr : List MapEntry) (i : Nat) (r : Option W), All2 (EntRel ρ) es arr → findK k es = some r →
      (r = none → Instr.findNow d u arr i = some none) ∧ (∀ v, r = some v → ∃ j x, Instr.findNow d u arr i = some (some (j, x)) ∧ WRel ρ v x) := by
  intro es
  induction es with
  | nil => intro arr i r ha h; cases ha; simp only [findK, Option.some.injEq] at h; subst h; exact ⟨fun _ => rfl, fun v hv => by cases hv⟩
  | cons p es ih =>
    intro arr i r ha h
    obtain ⟨c, v⟩ := p
    cases ha with
    | cons h1 h2 =>
      rename_i en arr
      obtain ⟨hc, hv⟩ := h1
      obtain ⟨s1, s2⟩ := same_key hd hk hc
      simp only [findK] at h
      cases k <;> cases c <;> simp only [] at h <;> try (cases h; done)
      case int.int j a j' b =>
        cases hj : kEq j j' with
        | false => rw [hj] at h; cases h
        | true =>
          rw [hj] at h
          simp only [] at h
          obtain ⟨q1, q2⟩ := s1 j a j' b rfl rfl hj
          cases hi : iEq a b with
          | true =>
            rw [hi] at h q1
            cases h
            refine ⟨(fun h => by cases h), fun v' hv' => ⟨i, en.val, ?_, ?_⟩⟩
            · simp only [Instr.findNow, q1]
            · cases hv'; exact hv
          | false =>
            rw [hi] at h q1
            simp only [] at h
            obtain ⟨g1, g2⟩ := ih arr (i + 1) r h2 h
            simp only [Instr.findNow, q1]
            exact ⟨g1, g2⟩
      case str.str a b =>
        obtain ⟨q1, q2⟩ := s2 a b rfl rfl
        cases hi : a.eq b with
        | true =>
          rw [hi] at h q1
          cases h
          refine ⟨(fun h => by cases h), fun v' hv' => ⟨i, en.val, ?_, ?_⟩⟩
          · simp only [Instr.findNow, q1]
          · cases hv'; exact hv
        | false =>
          rw [hi] at h q1
          simp only [] at h
          obtain ⟨g1, g2⟩ := ih arr (i + 1) r h2 h
          simp only [Instr.findNow, q1]
          exact ⟨g1, g2⟩

theorem checkKey_ok {d : TypeDesc} {kt : TypeId} (hd : P.underlying kt = some d) (hp : (∃ j, d = .int j) ∨ d = .string) (em : Bool) (n : Nat) (u : Value) : (Instr.checkKey em (n + 1) kt u).run P w = .ok () w := by
  unfold Instr.checkKey
  simp only [Sem.run_bind, run_und hd, Result.andThen_ok]
  rcases hp with ⟨j, rfl⟩ | rfl <;> cases u <;> rfl

theorem lookup_ok (hE : EnvOk E P) {look : Look} (h : Sees ρ look w.heap) {m k : Operand} (hm : OpRel ρ a e m) (hk : OpRel ρ a e k) {t : TypeId} {ok : Bool} {v : V} (hr : rLookup E look a t m k ok = some v) :
    ∃ u, (Instr.lookup t (e m) (e k) ok).run P w = .ok u w ∧ VRel ρ v u := by
  unfold rLookup at hr
  cases h1 : opC a m with
  | none => rw [h1] at hr; cases hr
  | some cm =>
    rw [h1] at hr
    simp only [] at hr
    cases h2 : opC a k with
    | none => rw [h2] at hr; cases hr
    | some ck =>
      rw [h2] at hr
      simp only [] at hr
      have hcm := toC_rel hm h1
      have hck := toC_rel hk h2
      unfold lookup at hr
      cases hu : undT E t with
      | none => rw [hu] at hr; cases hr
      | some ty =>
        rw [hu] at hr
        have hu' := (undT_some hE hu).1
        cases ty <;> simp only [] at hr <;> try (cases hr; done)
        rename_i kt el
        cases hko : keyOk E kt ck with
        | false => rw [hko] at hr; cases hr
        | true =>
          rw [hko] at hr
          simp only [] at hr
          obtain ⟨d, hd, hdk⟩ := keyOk_some hE hko
          cases hes : mapEs look cm with
          | none => rw [hes] at hr; cases hr
          | some es =>
            rw [hes] at hr
            simp only [] at hr
            unfold lookEs at hr
            cases hj : E.tab.get el with
            | none => rw [hj] at hr; cases hr
            | some j =>
              rw [hj] at hr
              simp only [] at hr
              cases hz : j.zero with
              | none => rw [hz] at hr; cases hr
              | some z =>
                rw [hz] at hr
                simp only [] at hr
                cases hf : findK ck es with
                | none => rw [hf] at hr; cases hr
                | some r =>
                  rw [hf] at hr
                  simp only [] at hr
                  obtain ⟨zv, z1, z2, z3⟩ := zero_ok (ρ := ρ) hE hj hz
                  have hmap : ∃ arr : Array MapEntry, All2 (EntRel ρ) es arr.toList ∧ ((e m = .map none ∧ arr = #[]) ∨ ∃ r clk, e m = .map (some r) ∧ w.heap[r]? = some (.map arr clk)) := by
                    cases cm <;> simp only [mapEs] at hes <;> try (cases hes; done)
                    case nilm =>
                      have ex : e m = .map none := hcm
                      cases hes
                      exact ⟨#[], .nil, .inl ⟨ex, rfl⟩⟩
                    case map q =>
                      cases hl : look q with
                      | none => rw [hl] at hes; cases hes
                      | some b =>
                        rw [hl] at hes
                        cases b <;> simp only [] at hes <;> try (cases hes; done)
                        cases hes
                        obtain ⟨p, ex, hp⟩ := hcm
                        obtain ⟨ob, q2, arr, clk, rfl, q3⟩ := h.row q _ p hl rfl ex
                        exact ⟨arr, q3, .inr ⟨_, _, hp, q2⟩⟩
                  obtain ⟨arr, ha, hrun⟩ := hmap
                  have hdp : (∃ j, d = .int j) ∨ d = .string := by rcases hdk with ⟨h, _⟩ | ⟨h, _⟩; exact .inl h; exact .inr h
                  obtain ⟨g1, g2⟩ := find_ok hdk hck es arr.toList 0 r ha hf
                  have main : ∀ (vv : Value) (b : Bool), ((∃ j, Instr.findNow d (e k) arr.toList 0 = some (some (j, vv)) ∧ b = true) ∨ (Instr.findNow d (e k) arr.toList 0 = some none ∧ b = false ∧ ∀ w : World, (zeroValue el).run P w = .ok vv w)) →
                      (Instr.lookup t (e m) (e k) ok).run P w = .ok (if ok then .tuple #[vv, .bool b] else vv) w := by
                    intro vv b hq
                    unfold Instr.lookup Instr.findKey
                    rcases hrun with ⟨ex, rfl⟩ | ⟨r, clk, ex, hh⟩ <;> rcases hq with ⟨j, hq, rfl⟩ | ⟨hq, rfl, hq2⟩
                    · simp only [Sem.run_bind, run_und hu', run_und hd, Result.andThen_ok, ex, Sem.run_pure, checkKey_ok hd hdp, hq]
                    · simp only [Sem.run_bind, run_und hu', run_und hd, Result.andThen_ok, ex, Sem.run_pure, checkKey_ok hd hdp, hq, hq2]
                    · simp only [Sem.run_bind, run_und hu', run_und hd, Result.andThen_ok, ex, Sem.run_pure, checkKey_ok hd hdp, hq, MapKept.run_getObj_map hh]
                    · simp only [Sem.run_bind, run_und hu', run_und hd, Result.andThen_ok, ex, Sem.run_pure, checkKey_ok hd hdp, hq, hq2, MapKept.run_getObj_map hh]
                  unfold lookRes at hr
                  cases r with
                  | some wv =>
                    obtain ⟨jj, xv, f1, f2⟩ := g2 wv rfl
                    have := main xv true (.inl ⟨_, f1, rfl⟩)
                    refine ⟨_, this, ?_⟩
                    cases ok <;> simp only [] at hr <;> cases hr
                    · exact f2
                    · exact ⟨_, rfl, .cons f2 (.cons rfl .nil)⟩
                  | none =>
                    have f1 := g1 rfl
                    have := main zv false (.inr ⟨f1, rfl, z1⟩)
                    refine ⟨_, this, ?_⟩
                    simp only [] at hr
                    cases hw : mkW j.isAgg z with
                    | none => rw [hw] at hr; cases hr
                    | some ww =>
                      rw [hw] at hr
                      have hzw := z2 ww hw
                      cases ok <;> simp only [] at hr <;> cases hr
                      · exact hzw
                      · exact ⟨_, rfl, .cons hzw (.cons rfl .nil)⟩

theorem typeAssert_ok (hE : EnvOk E P) (hx : OpRel ρ a e x) {t xt : TypeId} {ok : Bool} {v : V} (hr : rTypeAssert E a x t ok = some v) :
    ∃ u, (Instr.typeAssert (e x) xt t ok).run P w = .ok u w ∧ VRel ρ v u := by
  unfold rTypeAssert at hr
  cases hn : notIface E t with
  | false => rw [hn] at hr; cases hr
  | true =>
    rw [hn] at hr
    simp only [] at hr
    obtain ⟨d, hd, hd2⟩ := notIface_ok hE hn
    have no : ∀ v, tAssNo E t ok = some v → ok = true ∧ ∃ zv, (zeroValue t).run P w = .ok zv w ∧ VRel ρ v (.tuple #[zv, .bool false]) := by
      intro v hv
      unfold tAssNo at hv
      cases hi : E.tab.get t with
      | none => rw [hi] at hv; cases hv
      | some i =>
        rw [hi] at hv
        simp only [] at hv
        cases hz : i.zero with
        | none => rw [hz] at hv; cases hv
        | some z =>
          rw [hz] at hv
          simp only [] at hv
          cases hw : mkW i.isAgg z with
          | none => rw [hw] at hv; cases hv
          | some ww =>
            rw [hw] at hv
            obtain ⟨zv, z1, z2, _⟩ := zero_ok (ρ := ρ) hE hi hz
            cases ok <;> simp only [tAssRes] at hv <;> cases hv
            exact ⟨rfl, zv, z1 w, ⟨_, rfl, .cons (z2 ww hw) (.cons rfl .nil)⟩⟩
    have yes : ∀ ww v u, tAssRes ok true ww = some v → WRel ρ ww u → VRel ρ v (if ok then .tuple #[u, .bool true] else u) := by
      intro ww v u hv hw
      cases ok <;> simp only [tAssRes] at hv <;> cases hv
      · exact hw
      · exact ⟨_, rfl, .cons hw (.cons rfl .nil)⟩
    cases hc : opC a x with
    | none => rw [hc] at hr; cases hr
    | some c =>
      rw [hc] at hr
      have hcx := toC_rel hx hc
      cases c <;> simp only [] at hr <;> try (cases hr; done)
      case nili =>
        obtain ⟨rfl, zv, g1, g2⟩ := no v hr
        have ex : e x = .nilIface := hcx
        refine ⟨_, ?_, g2⟩
        unfold Instr.typeAssert
        simp only [Sem.run_bind, run_und hd, Result.andThen_ok, ex]
        cases d <;> simp only [Sem.run_bind, g1, Result.andThen_ok, if_true, Sem.run_pure] <;> exact absurd rfl (hd2 _)
      case ifc u c =>
        obtain ⟨xv, ex, hxv⟩ := hcx
        cases hb : Nat.beq u t with
        | true =>
          rw [hb] at hr
          have hb' := Nat.eq_of_beq_eq_true hb
          subst hb'
          refine ⟨_, ?_, yes _ _ _ hr hxv⟩
          unfold Instr.typeAssert
          simp only [Sem.run_bind, run_und hd, Result.andThen_ok, ex]
          cases d <;> simp only [if_true, Sem.run_pure] <;> exact absurd rfl (hd2 _)
        | false =>
          rw [hb] at hr
          obtain ⟨rfl, zv, g1, g2⟩ := no v hr
          have hne : u ≠ t := fun h => by subst h; simp at hb
          refine ⟨_, ?_, g2⟩
          unfold Instr.typeAssert
          simp only [Sem.run_bind, run_und hd, Result.andThen_ok, ex]
          cases d <;> simp only [if_neg hne, Sem.run_bind, g1, Result.andThen_ok, if_true, Sem.run_pure] <;> exact absurd rfl (hd2 _)
      case ife u =>
        have ex : e x = .iface u (.agg #[]) := hcx
        cases hb : Nat.beq u t with
        | true =>
          rw [hb] at hr
          have hb' := Nat.eq_of_beq_eq_true hb
          subst hb'
          refine ⟨_, ?_, yes _ _ (.agg #[]) hr ⟨_, rfl, .nil⟩⟩
          unfold Instr.typeAssert
          simp only [Sem.run_bind, run_und hd, Result.andThen_ok, ex]
          cases d <;> simp only [if_true, Sem.run_pure] <;> exact absurd rfl (hd2 _)
        | false =>
          rw [hb] at hr
          obtain ⟨rfl, zv, g1, g2⟩ := no v hr
          have hne : u ≠ t := fun h => by subst h; simp at hb
          refine ⟨_, ?_, g2⟩
          unfold Instr.typeAssert
          simp only [Sem.run_bind, run_und hd, Result.andThen_ok, ex]
          cases d <;> simp only [if_neg hne, Sem.run_bind, g1, Result.andThen_ok, if_true, Sem.run_pure] <;> exact absurd rfl (hd2 _)

end
end Ev
