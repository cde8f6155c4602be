import Derived.Test.YtjmnhilkgjfllaaGreatDoorEvO
import Derived.Laws.IdiomStrings
set_option linter.unusedVariables false
set_option linter.unusedSimpArgs false
namespace Ev
open Go

section
variable {P : Program} {w : World} {E : Env} {ρ : Mp} {a : A} {e : Operand → Value} {x y : Operand}

theorem bytesC_eq (bs : ByteArray) : ∀ n, n ≤ bs.size → bytesC (Str.of bs) n = (bs.data.toList.drop (bs.size - n)).map (fun b => C.int .u8 (b.toNat : Int)) := by
  intro n
  induction n with
  | zero => intro _; simp [bytesC]
  | succ n ih =>
    intro h
    have hi : bs.size - 1 - n < bs.data.toList.length := by simp; show _ < bs.size; omega
    have e1 : bs.size - (n + 1) = bs.size - 1 - n := by omega
    have e2 : bs.data.toList.drop (bs.size - 1 - n) = bs.data.toList[bs.size - 1 - n] :: bs.data.toList.drop (bs.size - n) := by
      rw [List.drop_eq_getElem_cons hi]; congr 2; omega
    rw [e1, e2, List.map_cons, ← ih (by omega)]
    simp only [bytesC]
    congr 2
    show Int.ofNat ((Str.of bs).at (bs.size - 1 - n)) = _
    rw [Str.of_eq, Str.at_ofL _ _ hi]; rfl

theorem runes_ok (s : ByteArray) : ∀ f i (acc : Array Value), ∃ vs : List Value, Conv.runesFrom s f i acc = acc ++ vs.toArray ∧ LRel ρ (runesOf (Str.of s) f i) vs := by
  intro f
  induction f with
  | zero => intro i acc; exact ⟨[], by simp [Conv.runesFrom], .nil⟩
  | succ f ih =>
    intro i acc
    simp only [runesOf, Conv.runesFrom]
    by_cases hi : i < s.size
    · rw [if_pos hi, Nat.ble_eq_true_of_le (show Nat.succ i ≤ (Str.of s).len from hi)]
      simp only []
      rw [dec_eq s i hi]
      obtain ⟨vs, h1, h2⟩ := ih (i + (Utf8.decode s i).2) (acc.push (.int .i32 (Int.ofNat (Utf8.decode s i).1)))
      refine ⟨.int .i32 (Int.ofNat (Utf8.decode s i).1) :: vs, ?_, .cons rfl h2⟩
      rw [h1]; simp
    · have : Nat.ble (Nat.succ i) (Str.of s).len = false := by
        cases hb : Nat.ble (Nat.succ i) (Str.of s).len with
        | false => rfl
        | true => exact absurd (Nat.le_of_ble_eq_true hb) hi
      rw [if_neg hi, this]
      exact ⟨[], by simp, .nil⟩

theorem push_modify (H : Array Obj) (o : Obj) (f : Obj → Obj) : (H.push o).modify H.size f = H.push (f o) := by
  apply Array.ext_getElem?
  intro i
  rw [Array.getElem?_modify, Array.getElem?_push, Array.getElem?_push]
  by_cases h : i = H.size
  · subst h; simp
  · rw [if_neg (by omega), if_neg h, if_neg h]

theorem newSl_ok {l : List C} {vs : List Value} {el : TypeId} {id n cap : Nat} {fz : Nat × Nat} {z : Value} (hl : LRel ρ l vs) (hn : vs.length = n) (hc : n ≤ cap) (hz : fz = (0, 0) ∨ fz = (cap, cap + 1)) {r : Result Next} {w' : World}
    (hr : r = .ok (.value (.slice (some ⟨w.heap.size, 0, none⟩) n cap)) w') (hw : w'.heap = w.heap.push (.cells (vs.toArray ++ Array.replicate (cap - n) z) el fz)) (hsm : Same w w') :
    NewOk P ρ id w r (vc (.sl id 0 n none 1)) (.row { mkRow l with anc := [id] }) := by
  have hll := hl.length
  have hs : (vs.toArray ++ Array.replicate (cap - n) z).size = cap := by simp; omega
  refine ⟨_, w', ⟨w.heap.size, 0, (vs.toArray ++ Array.replicate (cap - n) z).size, l.length⟩, _, hr, ⟨hw, hsm⟩, rfl, row_newM ?_ (by omega) ?_, ?_⟩
  · have : (vs.toArray ++ Array.replicate (cap - n) z).toList.take l.length = vs := by
      rw [hll]; simp
    rw [this]; exact hl
  · intro j hj
    rcases hz with rfl | rfl
    · simp
    · show ¬ (cap ≤ j ∧ j < cap + 1); omega
  · refine ⟨_, ⟨w.heap.size, 0, none⟩, cap, if_pos rfl, rfl, ⟨by omega, hc, fun k hk => (by cases hk), fun _ => ⟨?_, .inl rfl⟩, ?_, ?_⟩⟩
    · show l.length ≤ 0 + cap * 1; omega
    · show 0 + 0 + cap * 1 ≤ (vs.toArray ++ Array.replicate (cap - n) z).size; omega
    · show 0 + n * 1 ≤ l.length; omega

theorem run_runes_of_string (w : World) (src dst e : TypeId) (s : ByteArray) (hs : P.underlying src = some .string) (hd : P.underlying dst = some (.slice e)) (he : P.underlying e = some (.int .i32)) :
    (Go.convert src dst (.string s)).run P w = .ok (.slice (some ⟨w.heap.size, 0, none⟩) (Conv.runesFrom s s.size 0 #[]).size (grownCap w (Conv.runesFrom s s.size 0 #[]).size 0 e))
      (w.drew.alloc (.cells (Conv.runesFrom s s.size 0 #[] ++ Array.replicate (grownCap w (Conv.runesFrom s s.size 0 #[]).size 0 e - (Conv.runesFrom s s.size 0 #[]).size) (.int .i32 0)) e)) := by
  simp [Go.convert, run_underlying hs, run_underlying hd, run_underlying he, Conv.stringToRunes, Question.forced, newRow, grownCap]

theorem conv_ok (hE : EnvOk E P) (hx : OpRel ρ a e x) {sr d : TypeId} {id : Nat} {v : V} {b : Blk} (hr : nConv E a sr d x id = some (v, b)) :
    NewOk P ρ id w ((do pure (Next.value (← Go.convert sr d (e x))) : Sem Next).run P w) v b := by
  unfold nConv at hr
  cases hc : opC a x with
  | none => rw [hc] at hr; cases hr
  | some c =>
    rw [hc] at hr
    simp only [] at hr
    unfold convNew at hr
    cases c <;> simp only [] at hr <;> try (cases hr; done)
    rename_i z
    obtain ⟨bs, ex, rfl⟩ := toC_rel hx hc
    cases h1 : undT E sr with
    | none => rw [h1] at hr; cases hr
    | some ts =>
      rw [h1] at hr
      have h1' := (undT_some hE h1).1
      cases ts <;> simp only [] at hr <;> try (cases hr; done)
      unfold convStr at hr
      cases h2 : undT E d with
      | none => rw [h2] at hr; cases hr
      | some td =>
        rw [h2] at hr
        have h2' := (undT_some hE h2).1
        cases td <;> simp only [] at hr <;> try (cases hr; done)
        rename_i el
        cases h3 : undT E el with
        | none => rw [h3] at hr; cases hr
        | some te =>
          rw [h3] at hr
          have h3' := (undT_some hE h3).1
          cases te <;> (try simp only [] at hr) <;> try (cases hr; done)
          rename_i k
          cases k <;> (try simp only [] at hr) <;> try (cases hr; done)
          case u8 =>
            cases hr
            have hB : bytesC (Str.of bs) (Str.of bs).len = bs.data.toList.map (fun b => C.int .u8 (b.toNat : Int)) := by
              rw [str_len, bytesC_eq bs _ (Nat.le_refl _)]; simp
            have hl : LRel ρ (bytesC (Str.of bs) (Str.of bs).len) (bs.data.toList.map (fun b => Value.int .u8 (b.toNat : Int))) := by
              rw [hB]
              generalize bs.data.toList = q
              induction q with
              | nil => exact .nil
              | cons b q ih => exact .cons rfl ih
            have hcut : bs.size ≤ grownCap w bs.size 0 el := by simp [grownCap, Question.cut]
            have hrun := run_bytes_of_string (P := P) w sr d el bs h1' h2' h3'
            have hsz : (bytesRow bs (grownCap w bs.size 0 el)).size = grownCap w bs.size 0 el := by
              have : bs.data.size = bs.size := rfl
              simp [bytesRow, this]; omega
            have hrow : bytesRow bs (grownCap w bs.size 0 el) = (bs.data.toList.map (fun b => Value.int .u8 (b.toNat : Int))).toArray ++ Array.replicate (grownCap w bs.size 0 el - bs.size) (.int .u8 0) := by
              unfold bytesRow; congr 1
              apply Array.ext'; simp
            exact newSl_ok (P := P) (w := w) (id := id) hl (by simp) hcut (.inr rfl) (r := (do pure (Next.value (← Go.convert sr d (e x))) : Sem Next).run P w) (by rw [ex]; exact bi2 hrun)
              (by rw [hsz, hrow]; rfl) (by exact ⟨rfl, rfl⟩)
          case i32 =>
            cases hr
            obtain ⟨vs, q1, q2⟩ := runes_ok (ρ := ρ) bs bs.size 0 #[]
            have hrun := run_runes_of_string (P := P) w sr d el bs h1' h2' h3'
            have q1' : Conv.runesFrom bs bs.size 0 #[] = vs.toArray := by rw [q1]; simp
            have hsz : vs.toArray.size = vs.length := by simp
            rw [q1', hsz] at hrun
            have hcut : vs.length ≤ grownCap w vs.length 0 el := by simp [grownCap, Question.cut]
            have hll := q2.length
            rw [lenA_zero, str_len]
            rw [hll]
            exact newSl_ok (P := P) (w := w) (id := id) q2 rfl hcut (.inl rfl) (r := (do pure (Next.value (← Go.convert sr d (e x))) : Sem Next).run P w) (by rw [ex]; exact bi2 hrun) rfl (by exact ⟨rfl, rfl⟩)

/-- an operation that makes a block -/
theorem n_sound (hE : EnvOk E P) (o : Oper) (ho : ∀ x ∈ o.op.operands, OpRel ρ a e x) {f : Env → A → Nat → Option (V × Blk)}
    (hk : kOf E (opK o.op) = .n f) {id : Nat} {v : V} {b : Blk} (hf : f E a id = some (v, b)) : NewOk P ρ id w ((execOp e o).run P w) v b := by
  obtain ⟨dst, op, type, pos, after, guard⟩ := o
  simp only at ho hk
  unfold execOp
  cases op <;> simp only [opK, kOf] at hk <;> try (cases hk; done)
  case box t x => cases hk; exact box_ok (ho x (by simp [Op.operands])) hf
  case alloc t => cases hk; exact alloc_ok hE hf
  case buildSlice t n ps => cases hk; exact buildSlice_ok hE (ps := ps) (fun x hx => ho x.2 (by simp [Op.operands]; exact ⟨x.1, by simpa using hx⟩)) hf
  case makeSlice t l c => cases hk; exact makeSlice_ok hE (ho l (by simp [Op.operands])) (ho c (by simp [Op.operands])) hf
  case makeMap t r =>
    cases r <;> simp only [opK, kOf] at hk <;> cases hk
    cases hf
    exact makeMap_ok
  case range t x => cases hk; exact range_ok hE (ho x (by simp [Op.operands])) hf
  case convert s d x =>
    cases hn : isNew E d with
    | false => rw [hn] at hk; cases hk
    | true =>
      rw [hn] at hk
      cases hk
      exact conv_ok hE (ho x (by simp [Op.operands])) hf
  case call c =>
    exfalso
    cases hc : opCall c <;> rw [hc] at hk <;> simp only [kOf] at hk <;> try (cases hk; done)
    all_goals
      unfold opCall opB at hc
      repeat' split at hc <;> try (cases hc; done)

end
end Ev
