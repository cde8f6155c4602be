import Derived.Test.YtjmnhilkgjfllaaGreatDoorEvG
set_option linter.unusedVariables false
set_option linter.unusedSimpArgs false
namespace Ev
open Go

section
variable {P : Program} {w : World} {E : Env} {ρ : Mp} {a : A} {e : Operand → Value} {x y : Operand}

theorem of_eq_iff (s t : ByteArray) : (Str.of s = Str.of t) ↔ s.data.toList = t.data.toList := by
  rw [Str.of_eq, Str.of_eq]
  constructor
  · intro h
    simp only [Str.ofL, Str.mk.injEq] at h
    exact pack_inj _ _ h.1 h.2
  · intro h; rw [h]

theorem toList_eq (s : ByteArray) : s.toList = s.data.toList := by
  have hsz : s.data.toList.length = s.size := by simp
  have key : ∀ (n i : Nat) (acc : List UInt8), s.size - i = n → i ≤ s.size → ByteArray.toList.loop s i acc = acc.reverse ++ s.data.toList.drop i := by
    intro n
    induction n with
    | zero =>
      intro i acc hn hi
      unfold ByteArray.toList.loop
      rw [if_neg (by omega), List.drop_eq_nil_of_le (by omega), List.append_nil]
    | succ n ih =>
      intro i acc hn hi
      have hlt : i < s.size := by omega
      unfold ByteArray.toList.loop
      rw [if_pos hlt, ih (i + 1) _ (by omega) (by omega)]
      have hl : i < s.data.toList.length := by omega
      rw [List.drop_eq_getElem_cons hl]
      have : s.get! i = s.data.toList[i] := by
        show s.data[i]! = _
        have h2 : i < s.data.size := by simpa using hl
        rw [getElem!_pos s.data i h2]; simp
      simp [this]
  have := key s.size 0 [] (by omega) (by omega)
  simpa [ByteArray.toList] using this

theorem str_eq (s t : ByteArray) : (Str.of s).eq (Str.of t) = (s.toList == t.toList) := by
  rw [toList_eq, toList_eq, Str.of_eq, Str.of_eq, Str.eq_ofL]
theorem str_lt (s t : ByteArray) : (Str.of s).lt (Str.of t) = Op.bytesLess s.toList t.toList := by
  rw [toList_eq, toList_eq, Str.of_eq, Str.of_eq, Str.lt_ofL]
theorem str_app (s t : ByteArray) : (Str.of s).app (Str.of t) = Str.of (s ++ t) := by
  rw [Str.of_eq, Str.of_eq, Str.of_eq, Str.app_ofL]; simp
theorem str_len (s : ByteArray) : (Str.of s).len = s.size := rfl

theorem less_total : ∀ l r : List UInt8, (Op.bytesLess l r || l == r) = !Op.bytesLess r l
  | [], [] => by simp [Op.bytesLess]
  | [], _ :: _ => by simp [Op.bytesLess]
  | _ :: _, [] => by simp [Op.bytesLess]
  | b :: l, c :: r => by
    have ih := less_total l r
    simp only [Op.bytesLess]
    by_cases h : b = c
    · subst h
      have : ¬ b < b := fun h => by have := UInt8.lt_iff_toNat_lt.1 h; omega
      simp [this] at ih ⊢
      exact ih
    · have h1 : ¬ c = b := fun e => h e.symm
      have h2 : (decide (b < c)) = !decide (c < b) := by
        rw [Bool.eq_iff_iff]
        simp only [decide_eq_true_eq, Bool.not_eq_true', decide_eq_false_iff_not]
        have : b.toNat ≠ c.toNat := fun e => h (UInt8.toNat_inj.1 e)
        rw [UInt8.lt_iff_toNat_lt, UInt8.lt_iff_toNat_lt]; omega
      have h3 : ((b :: l) == (c :: r)) = false := by simp [h]
      have h4 : (b == c) = false := by simp [h]
      have h5 : (c == b) = false := by simp [h1]
      simp [h2, h4, h5]

/-! ### numbers and texts -/
theorem intOp_ok (t : TypeId) {op : BinOp} {k : IntKind} {m n : Int} {c : C} (h : intOp op k m n = some c) (hs : isShift op = false) :
    ∃ u, (Go.binOp op t (.int k m) (.int k n)).run P w = .ok u w ∧ CRel ρ c u := by
  cases op <;> simp only [intOp, intC_eq, wrapK_eq, iEq_eq, iLe_eq, Option.some.injEq] at h <;> try (cases h; done)
  all_goals try (subst h)
  case add => exact ⟨_, by simp [Go.binOp, Op.intArith] <;> rfl, rfl⟩
  case sub => exact ⟨_, by simp [Go.binOp, Op.intArith] <;> rfl, rfl⟩
  case mul => exact ⟨_, by simp [Go.binOp, Op.intArith] <;> rfl, rfl⟩
  case quo =>
    by_cases hz : n = 0
    · simp [hz] at h
    · simp [hz] at h; subst h; exact ⟨_, by simp [Go.binOp, Op.intDiv, hz] <;> rfl, rfl⟩
  case rem =>
    by_cases hz : n = 0
    · simp [hz] at h
    · simp [hz] at h; subst h; exact ⟨_, by simp [Go.binOp, Op.intDiv, hz] <;> rfl, rfl⟩
  case and => refine ⟨_, by simp [Go.binOp, Op.intBits] <;> rfl, ?_⟩; simp only [CRel, bitsN_eq]; simp <;> rfl
  case or => refine ⟨_, by simp [Go.binOp, Op.intBits] <;> rfl, ?_⟩; simp only [CRel, bitsN_eq]; simp <;> rfl
  case xor => refine ⟨_, by simp [Go.binOp, Op.intBits] <;> rfl, ?_⟩; simp only [CRel, bitsN_eq]; simp <;> rfl
  case andNot => refine ⟨_, by simp [Go.binOp, Op.intBits] <;> rfl, ?_⟩; simp only [CRel, bitsN_eq, modN_eq]; simp <;> rfl
  case eql => exact ⟨_, by simp [Go.binOp, Op.intCmp] <;> rfl, by first | rfl | (simp only [CRel]; congr 1; rw [Bool.eq_iff_iff]; simp)⟩
  case neq => exact ⟨_, by simp [Go.binOp, Op.intCmp] <;> rfl, by first | rfl | (simp only [CRel]; congr 1; rw [Bool.eq_iff_iff]; simp)⟩
  case lss => exact ⟨_, by simp [Go.binOp, Op.intCmp] <;> rfl, by first | rfl | (simp only [CRel]; congr 1; rw [Bool.eq_iff_iff]; simp)⟩
  case leq => exact ⟨_, by simp [Go.binOp, Op.intCmp] <;> rfl, by first | rfl | (simp only [CRel]; congr 1; rw [Bool.eq_iff_iff]; simp)⟩
  case gtr => exact ⟨_, by simp [Go.binOp, Op.intCmp] <;> rfl, by first | rfl | (simp only [CRel]; congr 1; rw [Bool.eq_iff_iff]; simp)⟩
  case geq => exact ⟨_, by simp [Go.binOp, Op.intCmp] <;> rfl, by first | rfl | (simp only [CRel]; congr 1; rw [Bool.eq_iff_iff]; simp)⟩

theorem shiftOp_ok (t : TypeId) {op : BinOp} {k k' : IntKind} {m n : Int} {c : C} (h : shiftOp op k m n = some c) :
    ∃ u, (Go.binOp op t (.int k m) (.int k' n)).run P w = .ok u w ∧ CRel ρ c u := by
  cases n with
  | negSucc j => cases h
  | ofNat j =>
    have hpos : ¬ ((Int.ofNat j) < 0) := by simp only [Int.ofNat_eq_natCast]; omega
    have hp : (Int.ofNat (Nat.shiftLeft 1 (Nat.min j k.bits)) : Int) = 2 ^ (min j k.bits) := by
      show ((1 <<< (min j k.bits) : Nat) : Int) = _
      rw [Nat.one_shiftLeft]; simp
    cases op <;> simp only [shiftOp, intC_eq, wrapK_eq, hp, Option.some.injEq] at h <;> try (cases h; done)
    case shl =>
      subst h
      refine ⟨_, by simp only [Go.binOp, Op.shift, hpos, if_false]; rfl, ?_⟩
      simp only [CRel]; rfl
    case shr =>
      subst h
      refine ⟨_, by simp only [Go.binOp, Op.shift, hpos, if_false]; rfl, ?_⟩
      simp only [CRel]; rfl

theorem strOp_ok (t : TypeId) {op : BinOp} {s r : ByteArray} {c : C} (h : strOp op (Str.of s) (Str.of r) = some c) :
    ∃ u, (Go.binOp op t (.string s) (.string r)).run P w = .ok u w ∧ CRel ρ c u := by
  cases op <;> simp only [strOp, str_eq, str_lt, str_app, Option.some.injEq] at h <;> try (cases h; done)
  case add =>
    cases hb : Nat.ble (Nat.add (Str.of s).len (Str.of r).len) 9223372036854775807 with
    | false => rw [hb] at h; cases h
    | true =>
      rw [hb] at h
      cases h
      have hb' := Nat.le_of_ble_eq_true hb
      replace hb' : s.size + r.size ≤ 9223372036854775807 := hb'
      refine ⟨.string (s ++ r), ?_, _, rfl, rfl⟩
      have hn : ¬ (((s.size + r.size : Nat) : Int) > IntKind.i64.max) := by simp [IntKind.max, IntKind.bits, IntKind.signed]; omega
      simp only [Go.binOp, Op.stringOp, hn, if_false]; rfl
  case eql => subst h; exact ⟨_, by simp [Go.binOp, Op.stringOp] <;> rfl, by simp [CRel]⟩
  case neq => subst h; exact ⟨_, by simp [Go.binOp, Op.stringOp] <;> rfl, by simp [CRel]⟩
  case lss => subst h; exact ⟨_, by simp [Go.binOp, Op.stringOp] <;> rfl, by simp [CRel]⟩
  case leq =>
    subst h
    refine ⟨_, by simp [Go.binOp, Op.stringOp] <;> rfl, ?_⟩
    simp only [CRel]; congr 1; exact less_total _ _
  case gtr =>
    subst h
    refine ⟨_, by simp [Go.binOp, Op.stringOp] <;> rfl, ?_⟩
    simp only [CRel]; congr 1; rw [← Bool.not_or, less_total]; simp
  case geq => subst h; exact ⟨_, by simp [Go.binOp, Op.stringOp] <;> rfl, by simp [CRel]⟩

end
end Ev
