import Derived.Test.YtnjfcaphpemihaaGreatDoorEwB
import Derived.Laws.MakeOwn
import Derived.Laws.IdiomStrings
import Derived.Lib.AppendZerosOnto
set_option linter.unusedVariables false
set_option linter.unusedSimpArgs false
namespace Ev
open Go

section
variable {P : Program} {w : World} {E : Env} {ρ : Mp} {a : A} {e : Operand → Value} {x y : Operand}

theorem bi {s : Sem Value} {u : Value} (h : s.run P w = .ok u w) : (do pure (Next.value (← s)) : Sem Next).run P w = .ok (.value u) w := by
  simp only [Sem.run_bind, h, Result.andThen_ok, Sem.run_pure]

theorem opB_r {b : Builtin} {ts : Array Nat} {args : List Operand} {rd : Bool} {f : Env → A → Look → Option V} (h : opB b ts args = .r rd f) :
    (∃ x, args = [x] ∧ b = .len ∧ rd = true ∧ f = fun E a look => rLen E look a ts x) ∨
    (∃ x, args = [x] ∧ b = .cap ∧ rd = true ∧ f = fun E a look => rCap E look a ts x) ∨
    (∃ x y, args = [x, y] ∧ b = .min ∧ rd = true ∧ f = fun _ a _ => rMin a x y) ∨
    (∃ x y, args = [x, y] ∧ b = .max ∧ rd = true ∧ f = fun _ a _ => rMax a x y) := by
  unfold opB at h
  split at h
  · split at h <;> first | (cases h; done) | (cases h; exact .inl ⟨_, rfl, rfl, rfl, rfl⟩) | (cases h; exact .inr (.inl ⟨_, rfl, rfl, rfl, rfl⟩))
  · split at h <;> first | (cases h; done) | (cases h; exact .inr (.inr (.inl ⟨_, _, rfl, rfl, rfl, rfl⟩))) | (cases h; exact .inr (.inr (.inr ⟨_, _, rfl, rfl, rfl, rfl⟩)))
  · cases h

theorem arr1 {args : Array Operand} {x : Operand} (h : args.toList = [x]) : args = #[x] := by cases args; simp at h; rw [h]
theorem arr2 {args : Array Operand} {x y : Operand} (h : args.toList = [x, y]) : args = #[x, y] := by cases args; simp at h; rw [h]

theorem call_r {c : Call} {rd : Bool} {f : Env → A → Look → Option V} (h : opCall c = .r rd f) : ∃ b, c.callee = .builtin b ∧ opB b c.argTypes c.args.toList = .r rd f := by
  unfold opCall at h
  cases hc : c.callee <;> rw [hc] at h <;> simp only [] at h <;> first | (cases h; done) | exact ⟨_, rfl, h⟩

theorem r_sound (hE : EnvOk E P) {look : Look} (h : Sees ρ look w.heap) (o : Oper) (ho : ∀ x ∈ o.op.operands, OpRel ρ a e x) {rd : Bool} {f : Env → A → Look → Option V}
    (hk : kOf E (opK o.op) = .r rd f) {v : V} (hf : f E a look = some v) : ∃ u, (execOp e o).run P w = .ok (.value u) w ∧ VRel ρ v u := by
  obtain ⟨dst, op, type, pos, after, guard⟩ := o
  simp only at ho hk
  unfold execOp
  cases op <;> simp only [opK, kOf] at hk <;> try (cases hk; done)
  case move x => cases hk; cases hf; exact ⟨e x, rfl, ho x (by simp [Op.operands])⟩
  case assign x => cases hk; cases hf; exact ⟨e x, rfl, ho x (by simp [Op.operands])⟩
  case load t x =>
    cases hk
    obtain ⟨u, h1, h2⟩ := load_ok hE h (ho x (by simp [Op.operands])) hf
    exact ⟨u, bi h1, h2⟩
  case fieldAddr t x f =>
    cases hk
    obtain ⟨u, h1, h2⟩ := fieldAddr_ok (w := w) hE (ho x (by simp [Op.operands])) hf
    exact ⟨u, bi h1, h2⟩
  case field t x f =>
    cases hk
    obtain ⟨u, h1, h2⟩ := field_ok (w := w) hE (ho x (by simp [Op.operands])) hf
    exact ⟨u, bi h1, h2⟩
  case binOp op t x y _ =>
    cases hk
    obtain ⟨u, h1, h2⟩ := bin_ok (w := w) hE (ho x (by simp [Op.operands])) (ho y (by simp [Op.operands])) hf
    exact ⟨u, bi h1, h2⟩
  case unOp op t x =>
    cases hk
    obtain ⟨u, h1, h2⟩ := un_ok (P := P) (w := w) (ho x (by simp [Op.operands])) hf
    exact ⟨u, bi h1, h2⟩
  case nilCheck x =>
    cases hk
    obtain ⟨ad, h1, h2⟩ := nil_ok (ho x (by simp [Op.operands])) hf
    exact ⟨e x, by simp only [h1, Sem.run_pure], h2⟩
  case pick c x y =>
    cases hk
    obtain ⟨b, h1, h2⟩ := pick_ok (ho c (by simp [Op.operands])) (ho x (by simp [Op.operands])) (ho y (by simp [Op.operands])) hf
    exact ⟨_, by simp only [h1, asBool, Sem.run_bind, Sem.run_pure, Result.andThen_ok], h2⟩
  case extract x i =>
    cases hk
    obtain ⟨u, h1, h2⟩ := extract_ok (P := P) (w := w) (ho x (by simp [Op.operands])) hf
    exact ⟨u, bi h1, h2⟩
  case indexAddr t x i =>
    cases hk
    obtain ⟨u, h1, h2⟩ := indexAddr_ok (w := w) hE (ho x (by simp [Op.operands])) (ho i (by simp [Op.operands])) hf
    exact ⟨u, bi h1, h2⟩
  case index t x i =>
    cases hk
    obtain ⟨u, h1, h2⟩ := index_ok (w := w) hE (ho x (by simp [Op.operands])) (ho i (by simp [Op.operands])) hf
    exact ⟨u, bi h1, h2⟩
  case build t ps =>
    cases hk
    obtain ⟨u, h1, h2⟩ := build_ok (w := w) hE (ps := ps) (fun x hx => ho x.2 (by simp [Op.operands]; exact ⟨x.1, by simpa using hx⟩)) hf
    exact ⟨u, bi h1, h2⟩
  case slice t x lo hi mx =>
    cases hk
    obtain ⟨u, h1, h2⟩ := slice_ok hE h (ho x (by simp [Op.operands])) (lo := lo) (hi := hi) (mx := mx) (fun x hx => ho x (by simp [Op.operands, hx])) (fun x hx => ho x (by simp [Op.operands, hx])) (fun x hx => ho x (by simp [Op.operands, hx])) hf
    exact ⟨u, bi h1, h2⟩
  case convert s d x =>
    cases hn : isNew E d with
    | true => rw [hn] at hk; cases hk
    | false =>
      rw [hn] at hk
      cases hk
      obtain ⟨u, h1, h2⟩ := convert_ok hE h (ho x (by simp [Op.operands])) hf
      exact ⟨u, bi h1, h2⟩
  case makeInterface t x =>
    cases hk
    obtain ⟨u, h1, h2⟩ := mkIface_ok (w := w) hE (ho x (by simp [Op.operands])) hf
    exact ⟨u, bi h1, h2⟩
  case makeFunc fn first cap =>
    cases hk
    obtain ⟨u, h1, h2⟩ := mkFunc_ok (P := P) (w := w) (first := first) (cap := cap) (fun x hx => ho x (by simp [Op.operands]; exact .inr (by simpa using hx))) hf
    exact ⟨u, bi h1, h2⟩
  case lookup t m k ok =>
    cases hk
    obtain ⟨u, h1, h2⟩ := lookup_ok hE h (ho m (by simp [Op.operands])) (ho k (by simp [Op.operands])) hf
    exact ⟨u, bi h1, h2⟩
  case typeAssert x xt t ok =>
    cases hk
    obtain ⟨u, h1, h2⟩ := typeAssert_ok (w := w) (xt := xt) hE (ho x (by simp [Op.operands])) hf
    exact ⟨u, bi h1, h2⟩
  case makeMap t r => cases r <;> simp only [opK, kOf] at hk <;> cases hk
  case call c =>
    have hk' : opCall c = .r rd f := by
      cases hc : opCall c <;> rw [hc] at hk <;> simp only [kOf] at hk <;> try (cases hk; done)
      · cases hk; rfl
      · exfalso
        unfold opCall opB at hc
        repeat' split at hc <;> try (cases hc; done)
    obtain ⟨b, hc, hb⟩ := call_r hk'
    have hop : ∀ x ∈ c.args.toList, OpRel ρ a e x := fun x hx => ho x (by simp [Op.operands, Call.operands]; exact .inr (by simpa using hx))
    simp only [Sem.run_bind, resolve, hc, Sem.run_pure, Result.andThen_ok, invoke, builtin]
    rcases opB_r hb with ⟨x, ha, rfl, rfl, rfl⟩ | ⟨x, ha, rfl, rfl, rfl⟩ | ⟨x, y, ha, rfl, rfl, rfl⟩ | ⟨x, y, ha, rfl, rfl, rfl⟩
    · have ha' := arr1 ha
      obtain ⟨u, h1, h2⟩ := len_ok (ty := type) hE h (hop x (by rw [ha]; simp)) hf
      exact ⟨u, by rw [ha']; exact bi (by simpa using h1), h2⟩
    · have ha' := arr1 ha
      obtain ⟨u, h1, h2⟩ := cap_ok (w := w) (ty := type) hE h (hop x (by rw [ha]; simp)) hf
      exact ⟨u, by rw [ha']; exact bi (by simpa using h1), h2⟩
    · have ha' := arr2 ha
      obtain ⟨u, h1, h2⟩ := min_ok (P := P) (w := w) (ts := c.argTypes) (ty := type) (hop x (by rw [ha]; simp)) (hop y (by rw [ha]; simp)) hf
      exact ⟨u, by rw [ha']; exact bi (by simpa using h1), h2⟩
    · have ha' := arr2 ha
      obtain ⟨u, h1, h2⟩ := max_ok (P := P) (w := w) (ts := c.argTypes) (ty := type) (hop x (by rw [ha]; simp)) (hop y (by rw [ha]; simp)) hf
      exact ⟨u, by rw [ha']; exact bi (by simpa using h1), h2⟩

theorem r_blind (o : Op) {f : Env → A → Look → Option V} (hk : kOf E (opK o) = .r false f) (l l' : Look) : f E a l = f E a l' := by
  cases o <;> simp only [opK, kOf] at hk <;> try (cases hk; done)
  all_goals try (cases hk; rfl)
  case convert s d x => cases hn : isNew E d <;> rw [hn] at hk <;> cases hk
  case makeMap t r => cases r <;> simp only [opK, kOf] at hk <;> cases hk
  case call c =>
    exfalso
    cases hc : opCall c <;> rw [hc] at hk <;> simp only [kOf] at hk <;> try (cases hk; done)
    · cases hk
      obtain ⟨b, _, hb⟩ := call_r hc
      rcases opB_r hb with ⟨x, _, _, h, _⟩ | ⟨x, _, _, h, _⟩ | ⟨x, y, _, _, h, _⟩ | ⟨x, y, _, _, h, _⟩ <;> cases h
    · unfold opCall opB at hc
      repeat' split at hc <;> try (cases hc; done)

end
end Ev

set_option linter.unusedVariables false
set_option linter.unusedSimpArgs false
namespace Ev
open Go

section
variable {P : Program} {w : World} {E : Env} {ρ : Mp} {a : A} {e : Operand → Value} {x y : Operand}

theorem elemTI_some (hE : EnvOk E P) {t : TypeId} {j : TI} (h : elemTI E t = some j) : ∃ el f, P.underlying t = some (.slice el) ∧ E.tab.get el = some j ∧ P.info? el = some f ∧ f.size = j.size ∧ f.bytes = j.bytes ∧ 1 ≤ j.size ∧ 1 ≤ j.bytes ∧ ∃ z, j.zero = some z := by
  unfold elemTI at h
  cases hi : E.tab.get t with
  | none => rw [hi] at h; cases h
  | some i =>
    rw [hi] at h
    simp only [] at h
    cases hu : i.und <;> rw [hu] at h <;> simp only [] at h <;> try (cases h; done)
    rename_i el
    cases hj : E.tab.get el with
    | none => rw [hj] at h; cases h
    | some j' =>
      rw [hj] at h
      simp only [] at h
      cases hb : and (Nat.ble 1 j'.size) (Nat.ble 1 j'.bytes) with
      | false => rw [hb] at h; cases h
      | true =>
        rw [hb] at h
        simp only [] at h
        cases hz : j'.zero with
        | none => rw [hz] at h; cases h
        | some z =>
        rw [hz] at h
        cases h
        rw [Bool.and_eq_true] at hb
        obtain ⟨f, _, _, _, f4, _⟩ := hE.tab t i hi
        obtain ⟨g, g1, g2, g3, _⟩ := hE.tab el j hj
        exact ⟨el, g, by rw [f4, hu], hj, g1, g2, g3, Nat.le_of_ble_eq_true hb.1, Nat.le_of_ble_eq_true hb.2, z, hz⟩

theorem row_new {l : List C} {cells : Array Value} {el : TypeId} {fz : Nat × Nat} {c : Nat} (hl : LRel ρ l (cells.toList.take l.length)) (hle : l.length ≤ cells.size) (hz : ∀ j, j ≤ cells.size → ¬ (fz.1 ≤ j ∧ j < fz.2)) :
    BlkRel ρ ⟨c, 0, cells.size, l.length⟩ (.row (mkRow l)) (.cells cells el fz) := by
  refine ⟨cells, el, fz, rfl, ⟨rfl, by show lenA l 0 = l.length; rw [lenA_zero], ?_, .inl (Nat.zero_le _), ?_, fun _ j _ h => hz j (Nat.le_of_lt h), fun _ _ => hz _ (Nat.le_refl _)⟩⟩
  · show 0 + lenA l 0 ≤ cells.size
    rw [lenA_zero]; omega
  · intro i x hi hx
    have hi' : i < l.length := by have : i < lenA l 0 := hi; rwa [lenA_zero] at this
    have hx' : l[i]? = some x := by have : (T.ofL l).get i = some x := hx; rwa [T.get_ofL] at this
    obtain ⟨v, h1, h2⟩ := hl.get hx'
    refine ⟨v, ?_, h2⟩
    rw [List.getElem?_take, if_pos hi'] at h1
    simpa using h1

theorem row_newM {l : List C} {cells : Array Value} {el : TypeId} {fz : Nat × Nat} {c id : Nat} (hl : LRel ρ l (cells.toList.take l.length)) (hle : l.length ≤ cells.size) (hz : ∀ j, j < cells.size → ¬ (fz.1 ≤ j ∧ j < fz.2)) :
    BlkRel ρ ⟨c, 0, cells.size, l.length⟩ (.row { mkRow l with anc := [id] }) (.cells cells el fz) := by
  refine ⟨cells, el, fz, rfl, ⟨rfl, by show lenA l 0 = l.length; rw [lenA_zero], ?_, .inl (Nat.zero_le _), ?_, fun _ j _ h => hz j h, fun _ h => by cases h⟩⟩
  · show 0 + lenA l 0 ≤ cells.size
    rw [lenA_zero]; omega
  · intro i x hi hx
    have hi' : i < l.length := by have : i < lenA l 0 := hi; rwa [lenA_zero] at this
    have hx' : l[i]? = some x := by have : (T.ofL l).get i = some x := hx; rwa [T.get_ofL] at this
    obtain ⟨v, h1, h2⟩ := hl.get hx'
    refine ⟨v, ?_, h2⟩
    rw [List.getElem?_take, if_pos hi'] at h1
    simpa using h1

theorem row_new' {l : List C} {cells : Array Value} {el : TypeId} {c : Nat} (hl : LRel ρ l cells.toList) : BlkRel ρ ⟨c, 0, cells.size, l.length⟩ (.row (mkRow l)) (.cells cells el) := by
  have h := hl.length
  simp at h
  exact row_new (by rw [h]; rw [← Array.length_toList, List.take_length]; exact hl) (by omega) (fun j _ => by simp)

def NewOk (P : Program) (ρ : Mp) (id : Nat) (w : World) (r : Result Next) (v : V) (b : Blk) : Prop :=
  ∃ u w' p ob, r = .ok (.value u) w' ∧ (w'.heap = w.heap.push ob ∧ Same w w') ∧ p.c = w.heap.size ∧ BlkRel ρ p b ob ∧ VRel (ρ.put id p) v u

theorem bi2 {s : Sem Value} {u : Value} {w' : World} (h : s.run P w = .ok u w') : (do pure (Next.value (← s)) : Sem Next).run P w = .ok (.value u) w' := by
  simp only [Sem.run_bind, h, Result.andThen_ok, Sem.run_pure]

theorem run_newVar (t : TypeId) (v : Value) : (do pure (.pointer (some (← newVar t v))) : Sem Value).run P w = .ok (.pointer (some ⟨w.heap.size, 0, none⟩)) { w with heap := w.heap.push (.cells v.cells t) } := by
  simp [newVar, newRow]

theorem box_ok (hx : OpRel ρ a e x) {t : TypeId} {id : Nat} {v : V} {b : Blk} (hr : nBox a x id = some (v, b)) : NewOk P ρ id w ((do pure (Next.value (← Instr.box t (e x))) : Sem Next).run P w) v b := by
  unfold nBox at hr
  cases h1 : opW a x with
  | none => rw [h1] at hr; cases hr
  | some y =>
    rw [h1] at hr
    cases hr
    have hy := (toW_rel hx h1).cells
    refine ⟨_, _, ⟨w.heap.size, 0, _, _⟩, _, bi2 (run_newVar t (e x)), ⟨rfl, rfl, rfl, rfl⟩, rfl, row_new' hy, ?_⟩
    exact ⟨_, if_pos rfl, rfl⟩

theorem alloc_ok (hE : EnvOk E P) {t : TypeId} {id : Nat} {v : V} {b : Blk} (hr : nAlloc E t id = some (v, b)) : NewOk P ρ id w ((do pure (Next.value (← Instr.alloc t true (.tuple #[]))) : Sem Next).run P w) v b := by
  unfold nAlloc at hr
  cases hi : E.tab.get t with
  | none => rw [hi] at hr; cases hr
  | some i =>
    rw [hi] at hr
    simp only [] at hr
    cases hz : i.zero with
    | none => rw [hz] at hr; cases hr
    | some z =>
      rw [hz] at hr
      cases hr
      obtain ⟨zv, z1, _, z3⟩ := zero_ok (ρ := ρ) hE hi hz
      have hrun : (Instr.alloc t true (.tuple #[])).run P w = .ok (.pointer (some ⟨w.heap.size, 0, none⟩)) { w with heap := w.heap.push (.cells zv.cells t) } := by
        unfold Instr.alloc
        simp only [Sem.run_bind, z1, Result.andThen_ok]
        exact run_newVar t zv
      exact ⟨_, _, ⟨w.heap.size, 0, _, _⟩, _, bi2 hrun, ⟨rfl, rfl, rfl, rfl⟩, rfl, row_new' z3, ⟨_, if_pos rfl, rfl⟩⟩

theorem rep_rel {z : List C} {zs : Array Value} (h : LRel ρ z zs.toList) (hp : 0 < zs.size) : ∀ c n, n = c * zs.size → LRel ρ (rep c z) ((Array.range n).map (zs[· % zs.size]!)).toList := by
  intro c
  induction c with
  | zero => intro n hn; simp at hn; subst hn; simp [rep]; exact (.nil : LRel ρ [] [])
  | succ c ih =>
    intro n hn
    have hl := h.length
    simp at hl
    have : ((Array.range n).map (zs[· % zs.size]!)).toList = zs.toList ++ ((Array.range (c * zs.size)).map (zs[· % zs.size]!)).toList := by
      apply List.ext_getElem?
      intro k
      rw [List.getElem?_append]
      simp only [Array.toList_map, Array.toList_range, List.getElem?_map, Array.length_toList, Array.getElem?_toList]
      by_cases hk : k < zs.size
      · rw [if_pos hk]
        have hkn : k < n := by rw [hn, Nat.succ_mul]; omega
        rw [List.getElem?_range hkn]
        simp [Nat.mod_eq_of_lt hk, hk]
      · rw [if_neg hk]
        by_cases hkn : k < n
        · have hk2 : k - zs.size < c * zs.size := by rw [hn, Nat.succ_mul] at hkn; omega
          rw [List.getElem?_range hkn, List.getElem?_range hk2]
          simp only [Option.map_some]
          congr 2
          rw [Nat.mod_eq_sub_mod (by omega)]
        · have hk2 : ¬ k - zs.size < c * zs.size := by rw [hn, Nat.succ_mul] at hkn; omega
          rw [List.getElem?_eq_none (by simp; omega), List.getElem?_eq_none (by simp; omega)]
    rw [this]
    exact All2.append h (ih _ rfl)

theorem rep_len (c : Nat) (z : List C) : (rep c z).length = c * z.length := by
  induction c with
  | zero => simp [rep]
  | succ c ih => simp [rep, ih, Nat.succ_mul]; omega

theorem fillL_len (f : Nat → Option (Nat × Nat)) : ∀ (l : List (Nat × W)) (zs r : List C), fillL f zs l = some r → r.length = zs.length := by
  intro l
  induction l with
  | nil => intro zs r h; simp only [fillL, Option.some.injEq] at h; rw [h]
  | cons p l ih =>
    intro zs r h
    obtain ⟨i, v⟩ := p
    simp only [fillL] at h
    cases hf : f i with
    | none => rw [hf] at h; cases h
    | some on =>
      obtain ⟨o, n⟩ := on
      rw [hf] at h
      simp only [lenA_zero] at h
      cases hb : and (Nat.beq v.cells.length n) (Nat.ble (Nat.add o n) zs.length) with
      | false => rw [hb] at h; cases h
      | true =>
        rw [hb] at h
        simp only [] at h
        rw [Bool.and_eq_true] at hb
        have hn : v.cells.length = n := Nat.eq_of_beq_eq_true hb.1
        have hle : o + n ≤ zs.length := Nat.le_of_ble_eq_true hb.2
        rw [ih _ r h]
        simp
        show min o zs.length + (v.cells.length + (zs.length - (o + n))) = zs.length
        omega

theorem buildSlice_ok (hE : EnvOk E P) {t n : Nat} {ps : Array (Nat × Operand)} (ho : ∀ x ∈ ps.toList, OpRel ρ a e x.2) {id : Nat} {v : V} {b : Blk} (hr : nBuildSlice E a t n ps.toList id = some (v, b)) :
    NewOk P ρ id w ((do pure (Next.value (← Instr.buildSlice t n (ps.map fun (i, x) => (i, e x)))) : Sem Next).run P w) v b := by
  unfold nBuildSlice at hr
  cases h1 : partsOf a ps.toList with
  | none => rw [h1] at hr; cases hr
  | some l =>
    rw [h1] at hr
    simp only [] at hr
    have hps := parts_ok ps.toList l ho h1
    have hpl : (ps.map fun (i, x) => (i, e x)).toList = ps.toList.map fun x => (x.1, e x.2) := by simp
    unfold buildSlice at hr
    cases hj : elemTI E t with
    | none => rw [hj] at hr; cases hr
    | some j =>
      rw [hj] at hr
      simp only [] at hr
      obtain ⟨el, f, g1, g2, g3, g4, g5, g6, g7, _⟩ := elemTI_some hE hj
      cases hz : j.zero with
      | none => rw [hz] at hr; cases hr
      | some z =>
        rw [hz] at hr
        simp only [] at hr
        cases hb : Nat.ble (Nat.mul n j.size) 16777216 with
        | false => rw [hb] at hr; cases hr
        | true =>
          rw [hb] at hr
          simp only [] at hr
          cases hf : fillL (fun k => some (Nat.mul k j.size, j.size)) (rep n z) l with
          | none => rw [hf] at hr; cases hr
          | some r =>
            rw [hf] at hr
            cases hr
            have hzl := hE.tabz el j z g2 hz
            obtain ⟨zv, z1, _, z3⟩ := zero_ok (ρ := ρ) hE g2 hz
            have hzs : zv.cells.size = j.size := by have := z3.length; simp at this; omega
            have hrep := rep_rel z3 (by omega) n (n * j.size) (by rw [hzs])
            obtain ⟨cells, q1, q2⟩ := fill_ok (fun k => some (k * j.size, j.size)) l _ _ r _ hps hrep hf
            have hsmall : ¬ n * f.size > 2 ^ 24 := by have := Nat.le_of_ble_eq_true hb; rw [g4]; show ¬ n * j.size > 2 ^ 24; have : n * j.size ≤ 16777216 := this; omega
            have hrun : (Instr.buildSlice t n (ps.map fun (i, x) => (i, e x))).run P w = .ok (.slice (some ⟨w.heap.size, 0, none⟩) n n) { w with heap := w.heap.push (.cells cells el) } := by
              unfold Instr.buildSlice
              simp only [Sem.run_bind, run_und g1, Result.andThen_ok, run_size g3, if_neg hsmall, Sem.run_pure]
              by_cases hn : n = 0
              · subst hn
                simp only [Nat.zero_mul, if_true, Sem.run_pure, Result.andThen_ok, hpl, g4] at q1 ⊢
                have : (Array.range 0).map (fun k => zv.cells[k % zv.cells.size]!) = (Array.range 0).map (fun k => (#[] : Array Value)[k % (#[] : Array Value).size]!) := by simp
                rw [this] at q1
                simp only [Sem.run_bind, Sem.run_pure, Result.andThen_ok]
                rw [q1]
                simp [newRow]
                try rfl
              · have hpos : n * f.size ≠ 0 := by rw [g4]; exact Nat.mul_ne_zero hn (by omega)
                rw [if_neg hpos]
                simp only [Sem.run_bind, z1, Result.andThen_ok, hpl, g4, Sem.run_pure]
                rw [q1]
                simp [newRow]
                try rfl
            have hcl : r.length = n * j.size := by
              rw [fillL_len _ l _ r hf, rep_len, hzl]
            have hcs : cells.size = n * j.size := by have := q2.length; simp at this; omega
            refine ⟨_, _, ⟨w.heap.size, 0, cells.size, r.length⟩, _, bi2 hrun, ⟨rfl, rfl, rfl, rfl⟩, rfl, row_new' q2, ?_⟩
            refine ⟨_, ⟨w.heap.size, 0, none⟩, n, if_pos rfl, rfl, ⟨by omega, Nat.le_refl _, fun k hk => ?_, fun hk => (by cases hk), ?_, ?_⟩⟩
            · cases hk; exact ⟨rfl, by show 0 + n * j.size ≤ r.length; omega, rfl⟩
            · show 0 + 0 + n * j.size ≤ cells.size; omega
            · show 0 + n * j.size ≤ r.length; omega


theorem makeSlice_ok (hE : EnvOk E P) {t : TypeId} {l cc : Operand} (hl : OpRel ρ a e l) (hc : OpRel ρ a e cc) {id : Nat} {v : V} {b : Blk} (hr : nMakeSlice E a t l cc id = some (v, b)) :
    NewOk P ρ id w ((do pure (Next.value (← Instr.makeSlice t (e l) (e cc))) : Sem Next).run P w) v b := by
  unfold nMakeSlice at hr
  cases h1 : opI a l with
  | none => rw [h1] at hr; cases hr
  | some nl =>
    rw [h1] at hr
    simp only [] at hr
    cases h2 : opI a cc with
    | none => rw [h2] at hr; cases hr
    | some nc =>
      rw [h2] at hr
      simp only [] at hr
      obtain ⟨kl, el'⟩ := toI_rel hl h1
      obtain ⟨kc, ec⟩ := toI_rel hc h2
      unfold makeSlice at hr
      cases hj : elemTI E t with
      | none => rw [hj] at hr; cases hr
      | some j =>
        rw [hj] at hr
        simp only [] at hr
        obtain ⟨el, f, g1, g2, g3, g4, g5, g6, g7, _⟩ := elemTI_some hE hj
        cases hz : j.zero with
        | none => rw [hz] at hr; cases hr
        | some z =>
          rw [hz] at hr
          simp only [] at hr
          cases nc with
          | negSucc _ => cases hr
          | ofNat c =>
            simp only [] at hr
            cases hb : inB nl (Nat.succ c) with
            | none => rw [hb] at hr; cases hr
            | some m =>
              rw [hb] at hr
              simp only [] at hr
              obtain ⟨rfl, hm⟩ := inB_some hb
              cases hbb : Nat.ble (Nat.mul c j.bytes) maxBytes with
              | false => rw [hbb] at hr; cases hr
              | true =>
                rw [hbb] at hr
                cases hr
                have hby : c * j.bytes ≤ 140737488355328 := Nat.le_of_ble_eq_true hbb
                have hcb : c ≤ c * j.bytes := Nat.le_mul_of_pos_right c (by omega)
                have hzl := hE.tabz el j z g2 hz
                obtain ⟨zv, z1, _, z3⟩ := zero_ok (ρ := ρ) hE g2 hz
                have hzs : zv.cells.size = j.size := by have := z3.length; simp at this; omega
                have hrep := rep_rel z3 (by omega) c (c * j.size) (by rw [hzs])
                have hbi : ((f.bytes : Int) * (c : Int)) ≤ 281474976710656 := by rw [g5, ← Int.natCast_mul, Nat.mul_comm]; omega
                obtain ⟨fz, hfz⟩ : ∃ fz, f.zero = some fz := by
                  obtain ⟨f', k1, k2, _, _, _, _, k7⟩ := hE.tab el j g2
                  rw [g3] at k1; cases k1
                  obtain ⟨vv, k8, _⟩ := k7 z hz
                  exact ⟨vv, k8⟩
                have hfz' : fz = zv := by
                  have := z1 w
                  rw [run_zero g3 hfz] at this
                  cases this; rfl
                subst hfz'
                have hrun := run_make (P := P) w t el f fz g1 g3 hfz kl kc (m : Int) (c : Int) (by omega) (by omega) hbi (by omega)
                have hn : ((m : Nat) : Int).toNat = m := rfl
                have hn2 : ((c : Nat) : Int).toNat = c := rfl
                rw [hn, hn2, g4] at hrun
                have ec' : e cc = .int kc (c : Int) := ec
                rw [el', ec']
                have hsz : (madeCells fz.cells (c * j.size)).size = c * j.size := by simp [madeCells]
                have hrl : (rep c z).length = c * j.size := by rw [rep_len, hzl]
                refine ⟨_, _, ⟨w.heap.size, 0, (madeCells fz.cells (c * j.size)).size, (rep c z).length⟩, _, bi2 hrun, ⟨rfl, rfl, rfl, rfl⟩, rfl, row_new' hrep, ?_⟩
                refine ⟨_, ⟨w.heap.size, 0, none⟩, c, if_pos rfl, rfl, ⟨by omega, by omega, fun k hk => ?_, fun hk => (by cases hk), ?_, ?_⟩⟩
                · cases hk; exact ⟨rfl, by show 0 + c * j.size ≤ (rep c z).length; omega, rfl⟩
                · show 0 + 0 + c * j.size ≤ (madeCells fz.cells (c * j.size)).size; omega
                · show 0 + m * j.size ≤ (rep c z).length
                  have : m * j.size ≤ c * j.size := Nat.mul_le_mul_right _ (by omega)
                  omega

theorem makeMap_ok {t : TypeId} {id : Nat} : NewOk P ρ id w ((do pure (Next.value (← Instr.makeMap t none)) : Sem Next).run P w) (vc (.map id)) (.map []) := by
  refine ⟨.map (some w.heap.size), { w with heap := w.heap.push (.map #[] 0) }, ⟨w.heap.size, 0, 0, 0⟩, .map #[] 0, ?_, ⟨rfl, rfl, rfl, rfl⟩, rfl, ⟨#[], 0, rfl, .nil⟩, ⟨_, if_pos rfl, rfl⟩⟩
  exact bi2 (by simp [Instr.makeMap])

theorem range_ok (hE : EnvOk E P) (hx : OpRel ρ a e x) {t : TypeId} {id : Nat} {v : V} {b : Blk} (hr : nRange E a t x id = some (v, b)) :
    NewOk P ρ id w ((do pure (Next.value (← Instr.range t (e x))) : Sem Next).run P w) v b := by
  unfold nRange at hr
  cases hu : undT E t with
  | none => rw [hu] at hr; cases hr
  | some ty =>
    rw [hu] at hr
    have hu' := (undT_some hE hu).1
    cases ty <;> simp only [] at hr <;> try (cases hr; done)
    cases hc : opC a x with
    | none => rw [hc] at hr; cases hr
    | some c =>
      rw [hc] at hr
      cases c <;> simp only [] at hr <;> try (cases hr; done)
      rename_i z
      cases hr
      obtain ⟨bs, ex, rfl⟩ := toC_rel hx hc
      refine ⟨.pointer (some ⟨w.heap.size, 0, none⟩), { w with heap := w.heap.push (.stringIter bs 0) }, ⟨w.heap.size, 0, 0, 0⟩, .stringIter bs 0, ?_, ⟨rfl, rfl, rfl, rfl⟩, rfl, ⟨bs, rfl, rfl, rfl⟩, ⟨_, if_pos rfl, rfl⟩⟩
      exact bi2 (by simp [Instr.range, run_und hu', ex])

end
end Ev

set_option linter.unusedVariables false
set_option linter.unusedSimpArgs false
namespace Ev
open Go

section
variable {P : Program} {w : World} {E : Env} {ρ : Mp} {a : A} {e : Operand → Value} {x y : Operand}

theorem bytesC_eq (bs : ByteArray) : ∀ n, n ≤ bs.size → bytesC (Str.of bs) n = (bs.data.toList.drop (bs.size - n)).map (fun b => C.int .u8 (b.toNat : Int)) := by
  intro n
  induction n with
  | zero => intro _; simp [bytesC]
  | succ n ih =>
    intro h
    have hi : bs.size - 1 - n < bs.data.toList.length := by simp; show _ < bs.size; omega
    have e1 : bs.size - (n + 1) = bs.size - 1 - n := by omega
    have e2 : bs.data.toList.drop (bs.size - 1 - n) = bs.data.toList[bs.size - 1 - n] :: bs.data.toList.drop (bs.size - n) := by
      rw [List.drop_eq_getElem_cons hi]; congr 2; omega
    rw [e1, e2, List.map_cons, ← ih (by omega)]
    simp only [bytesC]
    congr 2
    show Int.ofNat ((Str.of bs).at (bs.size - 1 - n)) = _
    rw [Str.of_eq, Str.at_ofL _ _ hi]; rfl

theorem runes_ok (s : ByteArray) : ∀ f i (acc : Array Value), ∃ vs : List Value, Conv.runesFrom s f i acc = acc ++ vs.toArray ∧ LRel ρ (runesOf (Str.of s) f i) vs := by
  intro f
  induction f with
  | zero => intro i acc; exact ⟨[], by simp [Conv.runesFrom], .nil⟩
  | succ f ih =>
    intro i acc
    simp only [runesOf, Conv.runesFrom]
    by_cases hi : i < s.size
    · rw [if_pos hi, Nat.ble_eq_true_of_le (show Nat.succ i ≤ (Str.of s).len from hi)]
      simp only []
      rw [dec_eq s i hi]
      obtain ⟨vs, h1, h2⟩ := ih (i + (Utf8.decode s i).2) (acc.push (.int .i32 (Int.ofNat (Utf8.decode s i).1)))
      refine ⟨.int .i32 (Int.ofNat (Utf8.decode s i).1) :: vs, ?_, .cons rfl h2⟩
      rw [h1]; simp
    · have : Nat.ble (Nat.succ i) (Str.of s).len = false := by
        cases hb : Nat.ble (Nat.succ i) (Str.of s).len with
        | false => rfl
        | true => exact absurd (Nat.le_of_ble_eq_true hb) hi
      rw [if_neg hi, this]
      exact ⟨[], by simp, .nil⟩

theorem push_modify (H : Array Obj) (o : Obj) (f : Obj → Obj) : (H.push o).modify H.size f = H.push (f o) := by
  apply Array.ext_getElem?
  intro i
  rw [Array.getElem?_modify, Array.getElem?_push, Array.getElem?_push]
  by_cases h : i = H.size
  · subst h; simp
  · rw [if_neg (by omega), if_neg h, if_neg h]

theorem newSl_ok {l : List C} {vs : List Value} {el : TypeId} {id n cap : Nat} {fz : Nat × Nat} {z : Value} (hl : LRel ρ l vs) (hn : vs.length = n) (hc : n ≤ cap) (hz : fz = (0, 0) ∨ fz = (cap, cap + 1)) {r : Result Next} {w' : World}
    (hr : r = .ok (.value (.slice (some ⟨w.heap.size, 0, none⟩) n cap)) w') (hw : w'.heap = w.heap.push (.cells (vs.toArray ++ Array.replicate (cap - n) z) el fz)) (hsm : Same w w') :
    NewOk P ρ id w r (vc (.sl id 0 n none 1)) (.row { mkRow l with anc := [id] }) := by
  have hll := hl.length
  have hs : (vs.toArray ++ Array.replicate (cap - n) z).size = cap := by simp; omega
  refine ⟨_, w', ⟨w.heap.size, 0, (vs.toArray ++ Array.replicate (cap - n) z).size, l.length⟩, _, hr, ⟨hw, hsm⟩, rfl, row_newM ?_ (by omega) ?_, ?_⟩
  · have : (vs.toArray ++ Array.replicate (cap - n) z).toList.take l.length = vs := by
      rw [hll]; simp
    rw [this]; exact hl
  · intro j hj
    rcases hz with rfl | rfl
    · simp
    · show ¬ (cap ≤ j ∧ j < cap + 1); omega
  · refine ⟨_, ⟨w.heap.size, 0, none⟩, cap, if_pos rfl, rfl, ⟨by omega, hc, fun k hk => (by cases hk), fun _ => ⟨?_, .inl rfl⟩, ?_, ?_⟩⟩
    · show l.length ≤ 0 + cap * 1; omega
    · show 0 + 0 + cap * 1 ≤ (vs.toArray ++ Array.replicate (cap - n) z).size; omega
    · show 0 + n * 1 ≤ l.length; omega

theorem run_runes_of_string (w : World) (src dst e : TypeId) (s : ByteArray) (hs : P.underlying src = some .string) (hd : P.underlying dst = some (.slice e)) (he : P.underlying e = some (.int .i32)) :
    (Go.convert src dst (.string s)).run P w = .ok (.slice (some ⟨w.heap.size, 0, none⟩) (Conv.runesFrom s s.size 0 #[]).size (grownCap w (Conv.runesFrom s s.size 0 #[]).size 0 e))
      (w.drew.alloc (.cells (Conv.runesFrom s s.size 0 #[] ++ Array.replicate (grownCap w (Conv.runesFrom s s.size 0 #[]).size 0 e - (Conv.runesFrom s s.size 0 #[]).size) (.int .i32 0)) e)) := by
  simp [Go.convert, run_underlying hs, run_underlying hd, run_underlying he, Conv.stringToRunes, Question.forced, newRow, grownCap]

theorem conv_ok (hE : EnvOk E P) (hx : OpRel ρ a e x) {sr d : TypeId} {id : Nat} {v : V} {b : Blk} (hr : nConv E a sr d x id = some (v, b)) :
    NewOk P ρ id w ((do pure (Next.value (← Go.convert sr d (e x))) : Sem Next).run P w) v b := by
  unfold nConv at hr
  cases hc : opC a x with
  | none => rw [hc] at hr; cases hr
  | some c =>
    rw [hc] at hr
    simp only [] at hr
    unfold convNew at hr
    cases c <;> simp only [] at hr <;> try (cases hr; done)
    rename_i z
    obtain ⟨bs, ex, rfl⟩ := toC_rel hx hc
    cases h1 : undT E sr with
    | none => rw [h1] at hr; cases hr
    | some ts =>
      rw [h1] at hr
      have h1' := (undT_some hE h1).1
      cases ts <;> simp only [] at hr <;> try (cases hr; done)
      unfold convStr at hr
      cases h2 : undT E d with
      | none => rw [h2] at hr; cases hr
      | some td =>
        rw [h2] at hr
        have h2' := (undT_some hE h2).1
        cases td <;> simp only [] at hr <;> try (cases hr; done)
        rename_i el
        cases h3 : undT E el with
        | none => rw [h3] at hr; cases hr
        | some te =>
          rw [h3] at hr
          have h3' := (undT_some hE h3).1
          cases te <;> (try simp only [] at hr) <;> try (cases hr; done)
          rename_i k
          cases k <;> (try simp only [] at hr) <;> try (cases hr; done)
          case u8 =>
            cases hr
            have hB : bytesC (Str.of bs) (Str.of bs).len = bs.data.toList.map (fun b => C.int .u8 (b.toNat : Int)) := by
              rw [str_len, bytesC_eq bs _ (Nat.le_refl _)]; simp
            have hl : LRel ρ (bytesC (Str.of bs) (Str.of bs).len) (bs.data.toList.map (fun b => Value.int .u8 (b.toNat : Int))) := by
              rw [hB]
              generalize bs.data.toList = q
              induction q with
              | nil => exact .nil
              | cons b q ih => exact .cons rfl ih
            have hcut : bs.size ≤ grownCap w bs.size 0 el := by simp [grownCap, Question.cut]
            have hrun := run_bytes_of_string (P := P) w sr d el bs h1' h2' h3'
            have hsz : (bytesRow bs (grownCap w bs.size 0 el)).size = grownCap w bs.size 0 el := by
              have : bs.data.size = bs.size := rfl
              simp [bytesRow, this]; omega
            have hrow : bytesRow bs (grownCap w bs.size 0 el) = (bs.data.toList.map (fun b => Value.int .u8 (b.toNat : Int))).toArray ++ Array.replicate (grownCap w bs.size 0 el - bs.size) (.int .u8 0) := by
              unfold bytesRow; congr 1
              apply Array.ext'; simp
            exact newSl_ok (P := P) (w := w) (id := id) hl (by simp) hcut (.inr rfl) (r := (do pure (Next.value (← Go.convert sr d (e x))) : Sem Next).run P w) (by rw [ex]; exact bi2 hrun)
              (by rw [hsz, hrow]; rfl) (by exact ⟨rfl, rfl, rfl⟩)
          case i32 =>
            cases hr
            obtain ⟨vs, q1, q2⟩ := runes_ok (ρ := ρ) bs bs.size 0 #[]
            have hrun := run_runes_of_string (P := P) w sr d el bs h1' h2' h3'
            have q1' : Conv.runesFrom bs bs.size 0 #[] = vs.toArray := by rw [q1]; simp
            have hsz : vs.toArray.size = vs.length := by simp
            rw [q1', hsz] at hrun
            have hcut : vs.length ≤ grownCap w vs.length 0 el := by simp [grownCap, Question.cut]
            have hll := q2.length
            rw [lenA_zero, str_len]
            rw [hll]
            exact newSl_ok (P := P) (w := w) (id := id) q2 rfl hcut (.inl rfl) (r := (do pure (Next.value (← Go.convert sr d (e x))) : Sem Next).run P w) (by rw [ex]; exact bi2 hrun) rfl (by exact ⟨rfl, rfl, rfl⟩)

theorem n_sound (hE : EnvOk E P) (o : Oper) (ho : ∀ x ∈ o.op.operands, OpRel ρ a e x) {f : Env → A → Nat → Option (V × Blk)}
    (hk : kOf E (opK o.op) = .n f) {id : Nat} {v : V} {b : Blk} (hf : f E a id = some (v, b)) : NewOk P ρ id w ((execOp e o).run P w) v b := by
  obtain ⟨dst, op, type, pos, after, guard⟩ := o
  simp only at ho hk
  unfold execOp
  cases op <;> simp only [opK, kOf] at hk <;> try (cases hk; done)
  case box t x => cases hk; exact box_ok (ho x (by simp [Op.operands])) hf
  case alloc t => cases hk; exact alloc_ok hE hf
  case buildSlice t n ps => cases hk; exact buildSlice_ok hE (ps := ps) (fun x hx => ho x.2 (by simp [Op.operands]; exact ⟨x.1, by simpa using hx⟩)) hf
  case makeSlice t l c => cases hk; exact makeSlice_ok hE (ho l (by simp [Op.operands])) (ho c (by simp [Op.operands])) hf
  case makeMap t r =>
    cases r <;> simp only [opK, kOf] at hk <;> cases hk
    cases hf
    exact makeMap_ok
  case range t x => cases hk; exact range_ok hE (ho x (by simp [Op.operands])) hf
  case convert s d x =>
    cases hn : isNew E d with
    | false => rw [hn] at hk; cases hk
    | true =>
      rw [hn] at hk
      cases hk
      exact conv_ok hE (ho x (by simp [Op.operands])) hf
  case call c =>
    exfalso
    cases hc : opCall c <;> rw [hc] at hk <;> simp only [kOf] at hk <;> try (cases hk; done)
    all_goals
      unfold opCall opB at hc
      repeat' split at hc <;> try (cases hc; done)

end
end Ev

set_option linter.unusedVariables false
set_option linter.unusedSimpArgs false
namespace Ev
open Go

section
variable {P : Program} {w : World} {E : Env} {ρ : Mp} {a : A} {e : Operand → Value} {x y : Operand} {s s' : St}

theorem store_ok (hE : EnvOk E P) (h : HRel ρ s.h.get s.nx w.heap) (hx : OpRel ρ a e x) (hy : OpRel ρ a e y) {t : TypeId} {r : V} (hr : aStore E a t x y s = .ok r s') :
    r = .un ∧ ∃ w', (Instr.storeAt t (e x) (e y)).run P w = .ok () w' ∧ Post ρ s w.heap ρ s' w'.heap ∧ Same w w' := by
  unfold aStore at hr
  cases h1 : opP a x with
  | none => rw [h1] at hr; cases hr
  | some bo =>
    obtain ⟨b, o⟩ := bo
    rw [h1] at hr
    simp only [] at hr
    cases h2 : opW a y with
    | none => rw [h2] at hr; cases hr
    | some v =>
      rw [h2] at hr
      simp only [] at hr
      unfold store at hr
      cases hi : E.tab.get t with
      | none => rw [hi] at hr; cases hr
      | some i =>
        rw [hi] at hr
        simp only [] at hr
        cases hb : Nat.beq (lenA v.cells 0) i.size with
        | false => rw [hb] at hr; cases hr
        | true =>
          rw [hb] at hr
          simp only [] at hr
          cases hw : writeL s b o v.cells with
          | none => rw [hw] at hr; cases hr
          | some s1 =>
            rw [hw] at hr
            cases hr
            refine ⟨rfl, ?_⟩
            obtain ⟨p, hp, ex⟩ := toP_rel hx h1
            have hv := (toW_rel hy h2).cells
            obtain ⟨w', q1, q2⟩ := run_writeL (P := P) h hw hp hv
            refine ⟨w', ?_, q2⟩
            obtain ⟨f, f1, f2, _⟩ := hE.tab t i hi
            have hl : v.cells.length = i.size := by have := Nat.eq_of_beq_eq_true hb; rw [lenA_zero] at this; exact this
            have hsz : (e y).cells.size = f.size := by have := hv.length; simp at this; omega
            unfold Instr.storeAt storeVar
            simp only [ex, Instr.sureAddr, Sem.run_bind, Sem.run_pure, Result.andThen_ok, run_size f1, ne_eq, hsz, not_true_eq_false, if_false]
            exact q1

theorem newCells_ok {look : Look} (h : Sees ρ look w.heap) {c : C} {u : Value} (hc : CRel ρ c u) {sz m : Nat} {l : List C} (hz : 1 ≤ sz) (hn : newCells look sz c = some (m, l)) :
    (∀ w : World, (Builtin.lenOf u).run P w = .ok m w) ∧ ∃ vs : List Value, LRel ρ l vs ∧ vs.length = m * sz ∧ ∀ w' : World, w'.heap = w.heap → (Builtin.firstCells sz m u).run P w' = .ok vs.toArray w' := by
  cases c <;> simp only [newCells] at hn <;> try (cases hn; done)
  case str x =>
    obtain ⟨bs, rfl, rfl⟩ := hc
    cases hb : Nat.beq sz 1 with
    | false => rw [hb] at hn; cases hn
    | true =>
      rw [hb] at hn
      cases hn
      have hs := Nat.eq_of_beq_eq_true hb
      subst hs
      have hB : bytesC (Str.of bs) (Str.of bs).len = bs.data.toList.map (fun b => C.int .u8 (b.toNat : Int)) := by
        rw [str_len, bytesC_eq bs _ (Nat.le_refl _)]; simp
      refine ⟨fun w => rfl, bs.data.toList.map (fun b => Value.int .u8 (b.toNat : Int)), ?_, ?_, fun w' _ => ?_⟩
      · rw [hB]
        generalize bs.data.toList = q
        induction q with
        | nil => exact .nil
        | cons b q ih => exact .cons rfl ih
      · simp [str_len]
      · simp only [Builtin.firstCells, Sem.run_pure, str_len]
        congr 1
        apply Array.ext'
        simp [ByteArray.extract, ByteArray.copySlice]
        rw [List.take_of_length_le (by simp)]
  case nils =>
    cases hn
    have hu : u = .slice none 0 0 := hc
    subst hu
    exact ⟨fun w => rfl, [], .nil, by simp, fun w' _ => rfl⟩
  case sl b o n cap z =>
    cases hl : readL look b o (Nat.mul n sz) with
    | none => rw [hl] at hn; cases hn
    | some l' =>
      rw [hl] at hn
      cases hn
      obtain ⟨p, ad, cp, hp, rfl, hs⟩ := hc
      obtain ⟨vs, h1, h2, _, h3⟩ := readL_rel h hl hp
      refine ⟨fun w => rfl, vs, h1, h2, fun w' hw' => ?_⟩
      show (loadCells ad (m * sz)).run P w' = _
      have hv : ∀ j v, vs[j]? = some v → w'.cell? (Addr.add ⟨p.c, p.o + o, none⟩ j) = some v := h3 w' hw'
      have := run_loadCells_list (P := P) w' ⟨p.c, p.o + o, none⟩ vs hv
      rw [h2] at this
      by_cases hm : m = 0
      · subst hm
        have hvs : vs = [] := by have : vs.length = 0 := by rw [h2]; exact Nat.zero_mul _
                                 simpa using this
        subst hvs
        rw [Nat.zero_mul]; rfl
      · rw [sl_ad hs (by have := hs.le; omega)]; exact this
  case dat z els =>
    cases hb : Nat.beq z sz with
    | false => rw [hb] at hn; cases hn
    | true =>
      rw [hb] at hn
      cases hn
      have hs := Nat.eq_of_beq_eq_true hb
      subst hs
      obtain ⟨ad, cap, us, rfl, _, g2, g3, _, g4⟩ := run_dat (P := P) h.lies hc
      rw [lenA_zero]
      refine ⟨fun w => rfl, us, g2, g3, fun w' hw' => ?_⟩
      show (loadCells ad (els.length * z)).run P w' = _
      have := run_loadCells_list (P := P) w' ad us (fun j v hv => by
        rw [World.cell?_heap hw']; exact g4 j v hv)
      rw [g3] at this
      exact this

section
variable {ts : Array Nat} {t el ty : TypeId} {f : TypeInfo} {sLen sCap m : Nat} {yv : Value} {news olds : List Value}

theorem run_app_room (h0 : ts[0]? = some t) (ht : P.underlying t = some (.slice el)) (hi : P.info? el = some f)
    (hz : ∀ tx, ts[1]? = some tx → (∃ q, P.underlying tx = some (.slice q)) ∨ P.underlying tx = some .string)
    (hl : (Builtin.lenOf yv).run P w = .ok m w) (hf : (Builtin.firstCells f.size m yv).run P w = .ok news.toArray w) (hr : sLen + m ≤ sCap) (ad : Addr) {w' : World}
    (hst : (storeCells (ad.add (sLen * f.size)) news).run P w = .ok () w') :
    (Builtin.append_ ts ty #[.slice (some ad) sLen sCap, yv]).run P w = .ok (.slice (some ad) (sLen + m) sCap) w' := by
  cases h1 : ts[1]? with
  | none => simp [Builtin.append_, h0, h1, run_und ht, run_size hi, hl, hf, hr, hst]
  | some tx =>
    rcases hz tx h1 with ⟨q, hq⟩ | hq <;> simp [Builtin.append_, h0, h1, run_und ht, run_und hq, run_size hi, hl, hf, hr, hst]

theorem run_app_nil0 (h0 : ts[0]? = some t) (ht : P.underlying t = some (.slice el)) (hi : P.info? el = some f)
    (hz : ∀ tx, ts[1]? = some tx → (∃ q, P.underlying tx = some (.slice q)) ∨ P.underlying tx = some .string)
    (hl : (Builtin.lenOf yv).run P w = .ok 0 w) (hf : (Builtin.firstCells f.size 0 yv).run P w = .ok news.toArray w) :
    (Builtin.append_ ts ty #[.slice none 0 0, yv]).run P w = .ok (.slice none 0 0) w := by
  cases h1 : ts[1]? with
  | none => simp [Builtin.append_, h0, h1, run_und ht, run_size hi, hl, hf]
  | some tx =>
    rcases hz tx h1 with ⟨q, hq⟩ | hq <;> simp [Builtin.append_, h0, h1, run_und ht, run_und hq, run_size hi, hl, hf]

theorem run_app_grow (h0 : ts[0]? = some t) (ht : P.underlying t = some (.slice el)) (hi : P.info? el = some f) {zv : Value} (hzv : f.zero = some zv)
    (hz : ∀ tx, ts[1]? = some tx → (∃ q, P.underlying tx = some (.slice q)) ∨ P.underlying tx = some .string)
    (hl : (Builtin.lenOf yv).run P w = .ok m w) (hf : (Builtin.firstCells f.size m yv).run P w.drew = .ok news.toArray w.drew) (base : Option Addr)
    (hfo : (Builtin.firstCells f.size sLen (.slice base sLen sCap)).run P w.drew = .ok olds.toArray w.drew)
    (hr : sCap < sLen + m) (hb : (sLen + m) * f.bytes ≤ 140737488355328) (hb1 : 1 ≤ f.bytes) :
    (Builtin.append_ ts ty #[.slice base sLen sCap, yv]).run P w = .ok (.slice (some ⟨w.heap.size, 0, none⟩) (sLen + m) (grownCap w (sLen + m) sCap el))
      (w.drew.alloc (.cells ((olds ++ news).toArray ++ Builtin.zeroCells zv.cells (grownCap w (sLen + m) sCap el - (sLen + m))) el)) := by
  have hassoc : ∀ z : Array Value, olds.toArray ++ (news.toArray ++ z) = (olds ++ news).toArray ++ z := fun z => by apply Array.ext'; simp
  have hn : ¬ (sLen + m ≤ sCap) := by omega
  have hbb : sLen + m ≤ (sLen + m) * f.bytes := Nat.le_mul_of_pos_right _ (by omega)
  have h63' : ¬ (9223372036854775807 < ((sLen : Int) + (m : Int))) := by omega
  have h48' : ¬ (281474976710656 < Builtin.nextslicecap (sLen + m) sCap * f.bytes) := by have := growslice_fits (by omega : sCap < sLen + m) hb; omega
  have hbz : ¬ f.bytes = 0 := by omega
  cases h1 : ts[1]? with
  | none => simp [Builtin.append_, h0, h1, run_und ht, run_size hi, zeroValue, hi, hzv, typeInfo, hl, hf, hfo, hn, h63', h48', hbz, Question.forced, newRow, grownCap, hassoc]
  | some tx =>
    rcases hz tx h1 with ⟨q, hq⟩ | hq <;> simp [Builtin.append_, h0, h1, run_und ht, run_und hq, run_size hi, zeroValue, hi, hzv, typeInfo, hl, hf, hfo, hn, h63', h48', hbz, Question.forced, newRow, grownCap, hassoc]

end


theorem HRel.seal {look : Look} {nx : Nat} {H : Array Obj} (h : HRel ρ look nx H) {b : Nat} {r : Row} (hb : look b = some (.row r)) :
    HRel ρ (fun x => if x = b then some (.row { r with leaf := false }) else look x) nx H where
  lies := h.lies
  away c x p hx hw hp := by
    replace hx : (if c = b then some (Blk.row { r with leaf := false }) else look c) = some x := hx
    split at hx
    · cases hx; cases hw
    · exact h.away c x p hx hw hp
  dom := h.dom
  blk c x hx ha := by
    replace hx : (if c = b then some (Blk.row { r with leaf := false }) else look c) = some x := hx
    split at hx
    · rename_i e; subst e; cases hx
      obtain ⟨p, o, g1, g2, arr, el, fz, g3, g4⟩ := h.blk c _ hb rfl
      exact ⟨p, o, g1, g2, arr, el, fz, g3, ⟨g4.tot, g4.kn, g4.le, g4.sh.imp id fun g => ⟨rfl, g.2⟩, g4.cell, (fun hh => by cases hh), (fun hh => by cases hh)⟩⟩
    · exact h.blk c x hx ha
  apart c x c' x' p p' hx hw hx' ha hne hp hp' hc := by
    replace hx : (if c = b then some (Blk.row { r with leaf := false }) else look c) = some x := hx
    replace hx' : (if c' = b then some (Blk.row { r with leaf := false }) else look c') = some x' := hx'
    split at hx
    · cases hx; cases hw
    · split at hx'
      · rename_i _ e; subst e; cases hx'
        obtain ⟨r1, r2, s1, s2, s3, s4, s5⟩ := h.apart c x c' _ p p' hx hw hb rfl hne hp hp' hc
        cases s2
        exact ⟨r1, _, s1, rfl, rfl, s4, s5⟩
      · exact h.apart c x c' x' p p' hx hw hx' ha hne hp hp' hc

theorem Post.seal (h : HRel ρ s.h.get s.nx w.heap) {b : Nat} {r : Row} (hb : s.h.get b = some (.row r)) :
    Post ρ s w.heap ρ ⟨s.h.set b (.row { r with leaf := false }), s.nx⟩ w.heap where
  m := Snap.le_refl _
  mn _ _ _ h := .inl h
  ext _ _ := rfl
  nx := Nat.le_refl _
  rel := by
    have := h.seal hb
    refine this.congr (fun c => ?_) (Nat.le_refl _)
    exact T.get_set _ _ _ _
  sz := Nat.le_refl _
  frame _ _ _ := rfl
  wrs c x p hx hw hp _ := by
    simp only [T.get_set] at hx
    split at hx
    · cases hx; cases hw
    · exact ⟨c, x, p, hx, hw, hp, rfl⟩
  alv c x p hx hw hp _ := by
    simp only [T.get_set] at hx
    split at hx
    · rename_i e; subst e; exact ⟨c, _, p, hb, rfl, hp, rfl⟩
    · exact ⟨c, x, p, hx, hw, hp, rfl⟩

theorem grow_ok (h : HRel ρ s.h.get s.nx w.heap) {l : List C} {vs : List Value} (hl : LRel ρ l vs) {el : TypeId} {n cp z : Nat} (hz : 1 ≤ z) (hn : vs.length = n * z) (hc : n ≤ cp) {zs : Array Value} (hzs : zs.size = z)
    {sh : Nat} {anc : List Nat} (hsh : sh ≤ n * z) :
    ∃ ρ', Post ρ s w.heap ρ' (s.new (.row { mkRow l with sh := sh, anc := anc })) (w.heap.push (.cells (vs.toArray ++ Builtin.zeroCells zs (cp - n)) el)) ∧
      CRel ρ' (.sl s.nx 0 n none z) (.slice (some ⟨w.heap.size, 0, none⟩) n cp) := by
  have hll := hl.length
  have hs : (vs.toArray ++ Builtin.zeroCells zs (cp - n)).size = cp * z := by
    simp [size_zeroCells, hzs, hn, ← Nat.add_mul]; congr 1; omega
  have hrow : BlkRel ρ ⟨w.heap.size, 0, cp * z, l.length⟩ (.row { mkRow l with sh := sh, anc := anc }) (.cells (vs.toArray ++ Builtin.zeroCells zs (cp - n)) el) := by
    have := row_new (ρ := ρ) (l := l) (cells := vs.toArray ++ Builtin.zeroCells zs (cp - n)) (el := el) (fz := (0, 0)) (c := w.heap.size) (by rw [hll]; simpa using hl) (by simp; omega) (fun j _ => by simp)
    rw [hs] at this
    obtain ⟨arr, e', fz, q1, q2⟩ := this
    cases q1
    refine ⟨_, _, _, rfl, ⟨q2.tot, q2.kn, q2.le, .inl ?_, q2.cell, q2.free, fun _ _ => q2.mark rfl rfl⟩⟩
    show sh ≤ lenA l 0
    rw [lenA_zero]; omega
  refine ⟨ρ.put s.nx ⟨w.heap.size, 0, cp * z, l.length⟩, Post.new h _ _ _ rfl hrow, ?_⟩
  refine ⟨_, ⟨w.heap.size, 0, none⟩, cp, if_pos rfl, rfl, ⟨by omega, hc, fun k hk => (by cases hk), fun _ => ⟨?_, .inl rfl⟩, ?_, ?_⟩⟩
  · show l.length ≤ 0 + cp * z
    have : n * z ≤ cp * z := Nat.mul_le_mul_right _ hc
    omega
  · show 0 + 0 + cp * z ≤ cp * z; omega
  · show 0 + n * z ≤ l.length; omega

theorem extend_ok (h : HRel ρ s.h.get s.nx w.heap) {b o n m z : Nat} {r : Row} {p : Place} (hb : s.h.get b = some (.row r)) (hlf : r.leaf = true) (hp : ρ b = some p) (hon : o + n * z = r.n)
    {lo ln : List C} {news : List Value} (hlo : r.q.getL (n * z) o = some lo) (hln : LRel ρ ln news) (hm : news.length = m * z) (htot : p.o + o + (n + m) * z ≤ p.tot) :
    ∃ w', (storeCells ⟨p.c, p.o + o + n * z, none⟩ news).run P w = .ok () w' ∧
      Post ρ s w.heap (ρ.put s.nx ⟨p.c, p.o + o, p.tot, (n + m) * z⟩) (St.new ⟨s.h.set b (.row { r with leaf := false }), s.nx⟩ (.row { mkRow (lo ++ ln) with sh := n * z, anc := b :: r.anc })) w'.heap ∧ Same w w' := by
  obtain ⟨p0, ob, e1, e2, arr, ty, fz, e3, hrow⟩ := h.blk b _ hb rfl
  rw [hp] at e1; cases e1; subst e3
  have hrt := hrow.tot
  have hrl := hrow.le
  have hrsh := hrow.shl hlf
  have hnm : (n + m) * z = n * z + m * z := Nat.add_mul _ _ _
  have hbn := h.dom b p hp
  obtain ⟨g0, g2'⟩ := T.getL_some hlo
  obtain ⟨olds, k1, k2, k3⟩ := getL_rel hrow (by omega) hlo
  obtain ⟨arr', g1, g2, g3, g4, g5⟩ := setCells_heap p.c ty fz news (p.o + o + n * z) w arr e2 (by omega)
  refine ⟨_, run_setCells (P := P) e2 (by omega) (fun j h1 h2 => hrow.free hlf j (by omega) (by omega)) hln.one, ?_, setCells_same _ _ _ _⟩
  have hlen : (lo ++ ln).length = (n + m) * z := by have := hln.length; simp; omega
  have hlook : ∀ c, (St.new ⟨s.h.set b (.row { r with leaf := false }), s.nx⟩ (.row { mkRow (lo ++ ln) with sh := n * z, anc := b :: r.anc })).h.get c =
      if c = s.nx then some (.row { mkRow (lo ++ ln) with sh := n * z, anc := b :: r.anc }) else if c = b then some (.row { r with leaf := false }) else s.h.get c := by
    intro c
    rw [St.new_h]
    show (if c = s.nx then _ else (s.h.set b _).get c) = _
    rw [T.get_set]
  have hfresh := h.fresh (Nat.le_refl s.nx)
  have hcs : p.c < w.heap.size := (Array.getElem?_eq_some_iff.1 e2).1
  have hnew : BlkRel (ρ.put s.nx ⟨p.c, p.o + o, p.tot, (n + m) * z⟩) ⟨p.c, p.o + o, p.tot, (n + m) * z⟩ (.row { mkRow (lo ++ ln) with sh := n * z, anc := b :: r.anc }) (.cells arr' ty fz) := by
    refine ⟨arr', ty, fz, rfl, ⟨by rw [g3, hrt], by show lenA (lo ++ ln) 0 = _; rw [lenA_zero, hlen], ?_, .inl ?_, ?_, (fun _ j h1 h2 => hrow.free hlf j (by have : p.o + o ≤ j := h1; omega) h2), (fun _ ha => by cases ha)⟩⟩
    · show p.o + o + lenA (lo ++ ln) 0 ≤ p.tot
      rw [lenA_zero, hlen]; exact htot
    · show n * z ≤ lenA (lo ++ ln) 0
      rw [lenA_zero, hlen]; omega
    · intro i x hi hx
      have hi' : i < (n + m) * z := by have : i < lenA (lo ++ ln) 0 := hi; rwa [lenA_zero, hlen] at this
      have hx' : (lo ++ ln)[i]? = some x := by have : (T.ofL (lo ++ ln)).get i = some x := hx; rwa [T.get_ofL] at this
      rw [List.getElem?_append] at hx'
      show ∃ v, arr'[p.o + o + i]? = some v ∧ _
      rw [g4]
      by_cases hin : i < lo.length
      · rw [if_pos hin] at hx'
        rw [if_neg (by omega)]
        have hq := g2' i (by omega)
        rw [hx'] at hq
        obtain ⟨v, u1, u2⟩ := hrow.cell (o + i) x (by omega) hq
        exact ⟨v, by rw [Nat.add_assoc]; exact u1, u2.mono (Mp.le_put hfresh)⟩
      · rw [if_neg hin] at hx'
        rw [if_pos (by omega)]
        obtain ⟨v, u1, u2⟩ := hln.get hx'
        exact ⟨v, by rw [show p.o + o + i - (p.o + o + n * z) = i - lo.length by omega]; exact u1, u2.mono (Mp.le_put hfresh)⟩
  have hold : ∀ c, c < s.nx → (ρ.put s.nx ⟨p.c, p.o + o, p.tot, (n + m) * z⟩) c = ρ c := fun c hc => by rw [Mp.put_at, if_neg (by omega)]
  have lt : ∀ c x, c ≠ s.nx → s.h.get c = some x → alive x = true → ∃ q, ρ c = some q ∧ c < s.nx := fun c x _ hx ha => by
    obtain ⟨q, _, u1, _⟩ := h.blk c x hx ha
    exact ⟨q, u1, h.dom c q u1⟩
  have hrel : HRel (ρ.put s.nx ⟨p.c, p.o + o, p.tot, (n + m) * z⟩) (St.new ⟨s.h.set b (.row { r with leaf := false }), s.nx⟩ (.row { mkRow (lo ++ ln) with sh := n * z, anc := b :: r.anc })).h.get
      (s.nx + 1) (w.setCells p.c (p.o + o + n * z) news).heap := by
    refine ⟨?_, ?_, ?_, ?_, ?_⟩
    · intro c i v hm
      have hc : c ≠ p.c := fun e => h.away b _ p hb hlf hp i v (by rw [← e]; exact hm)
      rw [g5 c hc]
      exact h.lies c i v hm
    · intro c x q hx hw hq
      rw [hlook] at hx
      by_cases c1 : c = s.nx
      · rw [Mp.put_at, if_pos c1] at hq; cases hq
        exact h.away b _ p hb hlf hp
      · rw [if_neg c1] at hx
        rw [Mp.put_at, if_neg c1] at hq
        by_cases c2 : c = b
        · rw [if_pos c2] at hx; cases hx; cases hw
        · rw [if_neg c2] at hx
          exact h.away c x q hx hw hq
    · intro c q hq
      rw [Mp.put_at] at hq
      split at hq
      · omega
      · have := h.dom c q hq; omega
    · intro c x hx ha
      rw [hlook] at hx
      by_cases c1 : c = s.nx
      · rw [if_pos c1] at hx; cases hx; subst c1
        exact ⟨_, _, if_pos rfl, g2, hnew⟩
      · rw [if_neg c1] at hx
        by_cases c2 : c = b
        · rw [if_pos c2] at hx; cases hx; subst c2
          refine ⟨p, _, by rw [hold _ hbn]; exact hp, g2, arr', ty, fz, rfl, ⟨by rw [g3, hrt], hrow.kn, hrl, .inl hrsh, ?_, (fun hh => by cases hh), (fun hh => by cases hh)⟩⟩
          intro i x hi hx
          rw [g4, if_neg (by have : i < r.n := hi; omega)]
          obtain ⟨v, u1, u2⟩ := hrow.cell i x hi hx
          exact ⟨v, u1, u2.mono (Mp.le_put hfresh)⟩
        · rw [if_neg c2] at hx
          obtain ⟨q, ob, u1, u2, u3⟩ := h.blk c x hx ha
          have hcn := h.dom c q u1
          by_cases hc : q.c = p.c
          · obtain ⟨r1, r2, s1, s2, s3, s4, s5⟩ := h.apart b _ c x p q hb hlf hx ha c2 hp u1 hc.symm
            cases s1; subst s2
            obtain ⟨arr2, e2', fz2, v1, v2⟩ := u3
            rw [hc, e2] at u2; cases u2; cases v1
            refine ⟨q, _, by rw [hold _ hcn]; exact u1, by rw [hc]; exact g2, arr', ty, fz, rfl, ⟨by rw [g3]; exact v2.tot, v2.kn, v2.le, v2.sh, ?_, (fun hh => by rw [s3] at hh; cases hh), (fun hh => by rw [s3] at hh; cases hh)⟩⟩
            intro i y hi hy
            rw [g4, if_neg (by omega)]
            obtain ⟨v, t1, t2⟩ := v2.cell i y hi hy
            exact ⟨v, t1, t2.mono (Mp.le_put hfresh)⟩
          · exact ⟨q, ob, by rw [hold _ hcn]; exact u1, by rw [g5 _ hc]; exact u2, u3.mono (Mp.le_put hfresh)⟩
    · intro c1 x1 c2 x2 p1 p2 hx1 hw hx2 ha hne hp1 hp2 hc
      rw [hlook] at hx1 hx2
      by_cases d1 : c1 = s.nx
      · rw [if_pos d1] at hx1; cases hx1; subst d1
        have : p1 = ⟨p.c, p.o + o, p.tot, (n + m) * z⟩ := by rw [Mp.put_at, if_pos rfl] at hp1; cases hp1; rfl
        subst this
        rw [if_neg hne] at hx2
        rw [Mp.put_at, if_neg hne] at hp2
        by_cases d2 : c2 = b
        · rw [if_pos d2] at hx2; cases hx2; subst d2
          rw [hp] at hp2; cases hp2
          refine ⟨_, _, rfl, rfl, rfl, ?_, List.mem_cons_self⟩
          show p.o + r.n ≤ p.o + o + n * z
          omega
        · rw [if_neg d2] at hx2
          obtain ⟨r1, r2, s1, s2, s3, s4, s5⟩ := h.apart b _ c2 x2 p p2 hb hlf hx2 ha d2 hp hp2 hc
          cases s1; subst s2
          refine ⟨_, _, rfl, rfl, s3, ?_, List.mem_cons_of_mem _ s5⟩
          show p2.o + r2.n ≤ p.o + o + n * z
          omega
      · rw [if_neg d1] at hx1
        rw [Mp.put_at, if_neg d1] at hp1
        by_cases d1b : c1 = b
        · rw [if_pos d1b] at hx1; cases hx1; cases hw
        · rw [if_neg d1b] at hx1
          by_cases d2 : c2 = s.nx
          · rw [if_pos d2] at hx2; cases hx2; subst d2
            have : p2 = ⟨p.c, p.o + o, p.tot, (n + m) * z⟩ := by rw [Mp.put_at, if_pos rfl] at hp2; cases hp2; rfl
            subst this
            obtain ⟨r1, r2, s1, s2, s3, _⟩ := h.apart c1 x1 b _ p1 p hx1 hw hb rfl (Ne.symm d1b) hp1 hp hc
            cases s2; rw [hlf] at s3; cases s3
          · rw [if_neg d2] at hx2
            rw [Mp.put_at, if_neg d2] at hp2
            by_cases d2b : c2 = b
            · rw [if_pos d2b] at hx2; cases hx2; subst d2b
              rw [hp] at hp2; cases hp2
              obtain ⟨r1, r2, s1, s2, s3, _⟩ := h.apart c1 x1 c2 _ p1 p hx1 hw hb rfl hne hp1 hp hc
              cases s2; rw [hlf] at s3; cases s3
            · rw [if_neg d2b] at hx2
              exact h.apart c1 x1 c2 x2 p1 p2 hx1 hw hx2 ha hne hp1 hp2 hc
  refine ⟨Snap.le_refl _, fun _ _ _ h => .inl h, fun c hc => hold c hc, by rw [St.new_nx]; exact Nat.le_succ _, by rw [St.new_nx]; exact hrel, Nat.le_of_eq g1.symm, ?_, ?_, ?_⟩
  · intro c hc hn
    exact g5 c (fun e => hn b _ p hb hlf hp e.symm)
  · intro c x q hx hw hq hcc
    rw [hlook] at hx
    by_cases c1 : c = s.nx
    · rw [Mp.put_at, if_pos c1] at hq; cases hq
      exact ⟨b, _, p, hb, hlf, hp, rfl⟩
    · rw [if_neg c1] at hx
      rw [Mp.put_at, if_neg c1] at hq
      by_cases c2 : c = b
      · rw [if_pos c2] at hx; cases hx; cases hw
      · rw [if_neg c2] at hx; exact ⟨c, x, q, hx, hw, hq, rfl⟩
  · intro c x q hx hw hq hcc
    rw [hlook] at hx
    by_cases c1 : c = s.nx
    · rw [Mp.put_at, if_pos c1] at hq; cases hq
      exact ⟨b, _, p, hb, rfl, hp, rfl⟩
    · rw [if_neg c1] at hx
      rw [Mp.put_at, if_neg c1] at hq
      by_cases c2 : c = b
      · rw [if_pos c2] at hx; subst c2; exact ⟨c, _, q, hb, rfl, hq, rfl⟩
      · rw [if_neg c2] at hx; exact ⟨c, x, q, hx, hw, hq, rfl⟩

end
end Ev

set_option linter.unusedVariables false
set_option linter.unusedSimpArgs false
namespace Ev
open Go

section
variable {P : Program} {w : World} {E : Env} {ρ : Mp} {a : A} {e : Operand → Value} {x y : Operand} {s s' : St}

theorem csOk {r : CS} {v : V} (h : retCS r = .ok v s') : ∃ c, r = .ok c s' ∧ v = vc c := by
  cases r with
  | no => cases h
  | ok c t => cases h; exact ⟨c, rfl, rfl⟩

theorem appendZ_ok (hE : EnvOk E P) (h : HRel ρ s.h.get s.nx w.heap) (hx : OpRel ρ a e x) (hy : OpRel ρ a e y) {ts : Array Nat} {ty : TypeId} {k1 : IntKind} (hk1 : undT E (ts.getD 1 0) = some (.int k1)) {v : V} (hr : aAppZ E a ts x y s = .ok v s') :
    ∃ u w' ρ', (Builtin.append_ ts ty #[e x, e y]).run P w = .ok u w' ∧ (Post ρ s w.heap ρ' s' w'.heap ∧ Same w w') ∧ VRel ρ' v u := by
  unfold aAppZ at hr
  cases ht1 : ts[1]? with
  | none => rw [ht1] at hr; cases hr
  | some tn =>
  rw [ht1] at hr
  simp only [] at hr
  cases h0 : ts[0]? with
  | none => rw [h0] at hr; cases hr
  | some t =>
    rw [h0] at hr
    simp only [] at hr
    cases hj : elemTI E t with
    | none => rw [hj] at hr; cases hr
    | some j =>
      rw [hj] at hr
      simp only [] at hr
      obtain ⟨el, f, g1, g2, g3, g4, g5, g6, g7, z, hz⟩ := elemTI_some hE hj
      have hzl := hE.tabz el j z g2 hz
      obtain ⟨f', q1, q2, _, _, _, _, q7⟩ := hE.tab el j g2
      rw [g3] at q1; cases q1
      obtain ⟨zv, hzv, z3⟩ := q7 z hz
      have z3 := (z3 ρ).2
      have hzs : zv.cells.size = j.size := by have := z3.length; simp at this; omega
      rw [hz] at hr
      simp only [] at hr
      cases h1 : opC a x with
      | none => rw [h1] at hr; cases hr
      | some cx =>
        rw [h1] at hr
        have hcx := toC_rel hx h1
        by_cases hnil : cx = .nils
        · subst hnil
          simp only [] at hr
          cases h2 : opC a y with
          | none => rw [h2] at hr; cases hr
          | some cy =>
            rw [h2] at hr
            have hcy := toC_rel hy h2
            cases cy <;> (try simp only [] at hr) <;> try (cases hr; done)
            rename_i kq m
            cases m with
            | negSucc _ => cases hr
            | ofNat m =>
              simp only [] at hr
              obtain ⟨cc, hc, rfl⟩ := csOk hr
              unfold appZnil at hc
              cases hb : and (Nat.ble 1 m) (Nat.ble (Nat.mul m j.bytes) maxBytes) with
              | false => rw [hb] at hc; cases hc
              | true =>
                rw [hb] at hc
                cases hc
                rw [Bool.and_eq_true] at hb
                have hm1 : 1 ≤ m := Nat.le_of_ble_eq_true hb.1
                have hby : m * j.bytes ≤ 140737488355328 := Nat.le_of_ble_eq_true hb.2
                have ex : e x = .slice none 0 0 := hcx
                have ey : e y = .int kq (Int.ofNat m) := hcy
                have hut : P.underlying tn = some (.int k1) := by
                  rw [Array.getD_eq_getD_getElem?, ht1] at hk1
                  exact (undT_some hE hk1).1
                have hn63 : m ≤ m * j.bytes := Nat.le_mul_of_pos_right _ (by omega)
                have hrun := Lib.run_append_nil_zeros (P := P) w t tn ty el f zv kq k1 g1 hut g3 hzv m hm1 (by omega) (by omega) (by rw [g5]; omega)
                have hts2 : (Builtin.append_ ts ty #[e x, e y]).run P w = (Builtin.append_ #[t, tn] ty #[.slice none 0 0, .int kq m]).run P w := by
                  rw [ex, ey]
                  unfold Builtin.append_
                  simp only [h0, ht1, List.getElem?_toArray, List.getElem?_cons_zero, List.getElem?_cons_succ]
                  rfl
                have hcap : m ≤ grownCap w m 0 el := by simp [grownCap, Question.cut]
                have hrep : LRel ρ (rep m z) (Builtin.zeroCells zv.cells m).toList := rep_rel z3 (by omega) m (m * zv.cells.size) rfl
                obtain ⟨ρ', t1, t2⟩ := grow_ok (s := s) (w := w) (sh := 0) (anc := []) h hrep (el := el) g6 (by have := hrep.length; simp [size_zeroCells, hzs]) hcap hzs (Nat.zero_le _)
                refine ⟨_, _, ρ', hts2.trans hrun, ⟨?_, rfl, rfl, rfl⟩, t2⟩
                have : ((Builtin.zeroCells zv.cells m).toList).toArray = Builtin.zeroCells zv.cells m := by simp
                rw [this] at t1
                exact t1
        cases cx <;> (try simp only [] at hr) <;> try (first | (cases hr; done) | exact absurd rfl hnil)
        rename_i b o n cap zz
        cases cap with
        | none => cases hr
        | some c =>
          simp only [] at hr
          cases h2 : opC a y with
          | none => rw [h2] at hr; cases hr
          | some cy =>
            rw [h2] at hr
            have hcy := toC_rel hy h2
            cases cy <;> (try simp only [] at hr) <;> try (cases hr; done)
            rename_i kq m
            cases m with
            | negSucc _ => cases hr
            | ofNat m =>
              simp only [] at hr
              obtain ⟨cc, hc, rfl⟩ := csOk hr
              unfold appZeros at hc
              cases hb : and (and (Nat.beq zz j.size) (Nat.ble 1 m)) (and (!(Nat.ble (Nat.add n m) c)) (Nat.ble (Nat.mul (Nat.add n m) j.bytes) maxBytes)) with
              | false => rw [hb] at hc; cases hc
              | true =>
                rw [hb] at hc
                simp only [] at hc
                rw [Bool.and_eq_true, Bool.and_eq_true, Bool.and_eq_true, Bool.not_eq_true'] at hb
                obtain ⟨⟨hzz, hm1⟩, hroom, hby⟩ := hb
                have hzz := Nat.eq_of_beq_eq_true hzz
                subst hzz
                have hm1 : 1 ≤ m := Nat.le_of_ble_eq_true hm1
                have hby : (n + m) * j.bytes ≤ 140737488355328 := Nat.le_of_ble_eq_true hby
                have hroom : ¬ n + m ≤ c := fun hh => by have := Nat.ble_eq_true_of_le hh; rw [show Nat.ble (n + m) c = false from hroom] at this; cases this
                obtain ⟨p, ad, cp, hp, ex, hs⟩ := hcx
                have ey : e y = .int kq (Int.ofNat m) := hcy
                obtain ⟨rfl, _, rfl⟩ := hs.ex c rfl
                unfold appGrow at hc
                cases hold : readL s.h.get b o (Nat.mul n j.size) with
                | none => rw [hold] at hc; cases hc
                | some old =>
                  rw [hold] at hc
                  cases hc
                  obtain ⟨olds, r1, r2, _, r3⟩ := readL_rel h.sees hold hp
                  have hfo : (Builtin.firstCells f.size n (.slice (some ⟨p.c, p.o + o, none⟩) n cp)).run P w.drew = .ok olds.toArray w.drew := by
                    show (loadCells ⟨p.c, p.o + o, none⟩ (n * f.size)).run P w.drew = _
                    rw [g4]
                    have := run_loadCells_list (P := P) w.drew ⟨p.c, p.o + o, none⟩ olds (r3 w.drew rfl)
                    rw [r2] at this
                    exact this
                  have hut : P.underlying tn = some (.int k1) := by
                    rw [Array.getD_eq_getD_getElem?, ht1] at hk1
                    exact (undT_some hE hk1).1
                  have hfit := growslice_fits (by omega : cp < n + m) hby
                  have hbm : m * f.bytes ≤ 281474976710656 := by
                    rw [g5]
                    have := Nat.mul_le_mul_right j.bytes (Nat.le_add_left m n)
                    omega
                  have hn63 : n + m ≤ (n + m) * j.bytes := Nat.le_mul_of_pos_right _ (by omega)
                  have hrun := Lib.run_append_grow_zeros (P := P) w t tn ty el f zv kq k1 g1 hut g3 hzv (some ⟨p.c, p.o + o, none⟩) n cp olds hfo m hm1 (by omega) (by omega) (by omega) hbm (by rw [g5]; omega)
                  have hts2 : (Builtin.append_ ts ty #[e x, e y]).run P w = (Builtin.append_ #[t, tn] ty #[.slice (some ⟨p.c, p.o + o, none⟩) n cp, .int kq m]).run P w := by
                    rw [ex, ey]
                    unfold Builtin.append_
                    simp only [h0, ht1, List.getElem?_toArray, List.getElem?_cons_zero, List.getElem?_cons_succ]
                    rfl
                  have hcap : n + m ≤ grownCap w (n + m) cp el := by simp [grownCap, Question.cut]
                  have hrep : LRel ρ (rep m z) (Builtin.zeroCells zv.cells m).toList := rep_rel z3 (by omega) m (m * zv.cells.size) rfl
                  have hall := All2.append r1 hrep
                  obtain ⟨ρ', t1, t2⟩ := grow_ok (s := s) (w := w) (sh := 0) (anc := []) h hall (el := el) g6 (by have := hrep.length; simp [r2, size_zeroCells, hzs, Nat.add_mul]) hcap hzs (Nat.zero_le _)
                  refine ⟨_, _, ρ', hts2.trans hrun, ⟨?_, rfl, rfl, rfl⟩, t2⟩
                  have : (olds ++ (Builtin.zeroCells zv.cells m).toList).toArray = olds.toArray ++ Builtin.zeroCells zv.cells m := by simp
                  rw [this] at t1
                  exact t1

theorem append_ok (hE : EnvOk E P) (h : HRel ρ s.h.get s.nx w.heap) (hx : OpRel ρ a e x) (hy : OpRel ρ a e y) {ts : Array Nat} {ty : TypeId} {v : V} (hr : aAppend E a ts x y s = .ok v s') :
    ∃ u w' ρ', (Builtin.append_ ts ty #[e x, e y]).run P w = .ok u w' ∧ (Post ρ s w.heap ρ' s' w'.heap ∧ Same w w') ∧ VRel ρ' v u := by
  cases hint : undT E (ts.getD 1 0) with
  | none => unfold aAppend at hr; rw [hint] at hr; cases hr
  | some dint =>
  by_cases hisint : ∃ k1, dint = .int k1
  · obtain ⟨k1, rfl⟩ := hisint
    have hr3 : aAppZ E a ts x y s = .ok v s' := by
      unfold aAppend at hr
      rw [hint] at hr
      exact hr
    exact appendZ_ok hE h hx hy hint hr3
  have htx : ∀ tx, ts[1]? = some tx → (∃ q, P.underlying tx = some (.slice q)) ∨ P.underlying tx = some .string := by
    intro tx h1
    unfold aAppend at hr
    have hg : ts.getD 1 0 = tx := by rw [Array.getD_eq_getD_getElem?, h1]; rfl
    rw [hg] at hr
    cases hu : undT E tx with
    | none => rw [hu] at hr; cases hr
    | some d =>
      have hu' := (undT_some hE hu).1
      rw [hu] at hr
      have hd : d = dint := by rw [hg, hu] at hint; exact Option.some.inj hint
      subst hd
      cases d <;> simp only [] at hr <;> try (cases hr; done)
      · exact absurd ⟨_, rfl⟩ hisint
      · exact .inr hu'
      · exact .inl ⟨_, hu'⟩
  have hr2 : aApp E a ts x y s = .ok v s' := by
    unfold aAppend at hr
    rw [hint] at hr
    cases dint <;> simp only [] at hr <;> first | exact hr | (cases hr; done) | exact absurd ⟨_, rfl⟩ hisint
  clear hr
  unfold aApp at hr2
  cases h0 : ts[0]? with
  | none => rw [h0] at hr2; cases hr2
  | some t =>
    rw [h0] at hr2
    simp only [] at hr2
    cases h1 : opC a x with
    | none => rw [h1] at hr2; cases hr2
    | some cx =>
      rw [h1] at hr2
      simp only [] at hr2
      cases h2 : opC a y with
      | none => rw [h2] at hr2; cases hr2
      | some cy =>
        rw [h2] at hr2
        simp only [] at hr2
        obtain ⟨c, hc, rfl⟩ := csOk hr2
        clear hr2
        have hcx := toC_rel hx h1
        have hcy := toC_rel hy h2
        unfold append at hc
        cases hj : elemTI E t with
        | none => rw [hj] at hc; cases hc
        | some j =>
          rw [hj] at hc
          simp only [] at hc
          obtain ⟨el, f, g1, g2, g3, g4, g5, g6, g7, z, hz⟩ := elemTI_some hE hj
          have hzl := hE.tabz el j z g2 hz
          obtain ⟨f', k1, k2, _, _, _, _, k7⟩ := hE.tab el j g2
          rw [g3] at k1; cases k1
          obtain ⟨zv, hzv, z3⟩ := k7 z hz
          have z3 := (z3 ρ).2
          have hzs : zv.cells.size = j.size := by have := z3.length; simp at this; omega
          cases hn : newCells s.h.get j.size cy with
          | none => rw [hn] at hc; cases hc
          | some mn =>
            obtain ⟨m, new⟩ := mn
            rw [hn] at hc
            simp only [] at hc
            obtain ⟨hlen, news, n1, n2, n3⟩ := newCells_ok (P := P) h.sees hcy g6 hn
            have hnl := n1.length
            cases m with
            | zero =>
              have hn0 : news = [] := by have : news.length = 0 := by rw [n2]; exact Nat.zero_mul _
                                         simpa using this
              subst hn0
              have hf := n3 w rfl
              replace hc : appZ cx s = .ok c s' := hc
              unfold appZ at hc
              rw [← g4] at hf
              cases cx <;> simp only [] at hc <;> try (cases hc; done)
              case nils =>
                cases hc
                have ex : e x = .slice none 0 0 := hcx
                rw [ex]
                exact ⟨_, w, ρ, run_app_nil0 h0 g1 g3 htx (hlen w) hf, ⟨Post.refl h, Same.refl w⟩, rfl⟩
              case sl b o n cap z' =>
                cases hc
                obtain ⟨p, ad, cp, hp, ex, hs⟩ := hcx
                rw [ex]
                exact ⟨_, w, ρ, run_app_room h0 g1 g3 htx (hlen w) hf (by have := hs.le; omega) ad rfl, ⟨Post.refl h, Same.refl w⟩, ⟨p, ad, cp, hp, rfl, hs⟩⟩
            | succ m =>
              replace hc : appNz j (m + 1) new cx s = .ok c s' := hc
              unfold appNz at hc
              cases cx <;> simp only [] at hc <;> try (cases hc; done)
              case nils =>
                have ex : e x = .slice none 0 0 := hcx
                rw [ex]
                cases hb : Nat.ble (Nat.mul (m + 1) j.bytes) maxBytes with
                | false => rw [hb] at hc; cases hc
                | true =>
                  rw [hb] at hc
                  cases hc
                  have hby : (m + 1) * j.bytes ≤ 140737488355328 := Nat.le_of_ble_eq_true hb
                  have hrun := run_app_grow (w := w) (ty := ty) (sLen := 0) (sCap := 0) (olds := []) h0 g1 g3 hzv htx (hlen w) (by rw [g4]; exact n3 w.drew rfl) none rfl (by omega) (by rw [g5, Nat.zero_add]; exact hby) (by omega)
                  rw [Nat.zero_add, List.nil_append] at hrun
                  have hcap : m + 1 ≤ grownCap w (m + 1) 0 el := by simp [grownCap, Question.cut]
                  obtain ⟨ρ', q1, q2⟩ := grow_ok (s := s) (w := w) (sh := 0) (anc := []) h n1 (el := el) g6 n2 hcap hzs (Nat.zero_le _)
                  exact ⟨_, _, ρ', hrun, ⟨q1, rfl, rfl, rfl⟩, q2⟩
              case sl b o n cap z' =>
                obtain ⟨p, ad, cp, hp, ex, hs⟩ := hcx
                rw [ex]
                unfold appSl at hc
                cases hb : and (Nat.beq z' j.size) (Nat.ble (Nat.mul (Nat.add n (m + 1)) j.bytes) maxBytes) with
                | false => rw [hb] at hc; cases hc
                | true =>
                  rw [hb] at hc
                  simp only [] at hc
                  rw [Bool.and_eq_true] at hb
                  have hzz := Nat.eq_of_beq_eq_true hb.1
                  subst hzz
                  have hby : (n + (m + 1)) * j.bytes ≤ 140737488355328 := Nat.le_of_ble_eq_true hb.2
                  have hnm : (n + (m + 1)) * j.size = n * j.size + (m + 1) * j.size := Nat.add_mul _ _ _
                  have hst := hs.tot
                  have hsk := hs.kn
                  -- in place
                  have room : ∀ w', cp ≥ n + (m + 1) → (storeCells ⟨p.c, p.o + o + n * j.size, none⟩ news).run P w = .ok () w' →
                      (Builtin.append_ ts ty #[.slice (some ad) n cp, e y]).run P w = .ok (.slice (some ⟨p.c, p.o + o, none⟩) (n + (m + 1)) cp) w' := by
                    intro w' hcp hst
                    have had := sl_ad hs (by omega)
                    subst had
                    exact run_app_room h0 g1 g3 htx (hlen w) (by rw [g4]; exact n3 w rfl) hcp _ (by rw [g4, add_at]; exact hst)
                  have hmz : (m + 1) * j.size ≥ 1 := Nat.mul_pos (by omega) (by omega)
                  -- grown
                  have grown : ∀ lo, readL s.h.get b o (n * j.size) = some lo → cp < n + (m + 1) → ∀ (s1 : St), Post ρ s w.heap ρ s1 w.heap → s1.nx = s.nx → ∀ sh anc, sh ≤ n * j.size → ∃ u w' ρ',
                      (Builtin.append_ ts ty #[.slice (some ad) n cp, e y]).run P w = .ok u w' ∧ (Post ρ s w.heap ρ' (s1.new (.row { mkRow (lo ++ new) with sh := sh, anc := anc })) w'.heap ∧ Same w w') ∧ VRel ρ' (vc (.sl s.nx 0 (n + (m + 1)) none j.size)) u := by
                    intro lo hlo hcp s1 hp1 hnx sh anc hsh
                    obtain ⟨olds, q1, q2, _, q3⟩ := readL_rel h.sees hlo hp
                    have hfo : (Builtin.firstCells f.size n (.slice (some ad) n cp)).run P w.drew = .ok olds.toArray w.drew := by
                      show (loadCells ad (n * f.size)).run P w.drew = _
                      rw [g4]
                      have := run_loadCells_list (P := P) w.drew ⟨p.c, p.o + o, none⟩ olds (q3 w.drew rfl)
                      rw [q2] at this
                      by_cases hn0 : n = 0
                      · subst hn0
                        have : olds = [] := by have : olds.length = 0 := by rw [q2]; exact Nat.zero_mul _
                                               simpa using this
                        subst this
                        rw [Nat.zero_mul]; rfl
                      · rw [sl_ad hs (by have := hs.le; omega)]; exact this
                    have hrun := run_app_grow (w := w) (ty := ty) (olds := olds) h0 g1 g3 hzv htx (hlen w) (by rw [g4]; exact n3 w.drew rfl) (some ad) hfo hcp (by rw [g5]; exact hby) (by omega)
                    have hcap : n + (m + 1) ≤ grownCap w (n + (m + 1)) cp el := by simp [grownCap, Question.cut]
                    obtain ⟨ρ', r1, r2⟩ := grow_ok (s := s1) (w := w) (sh := sh) (anc := anc) hp1.rel (All2.append q1 n1) (el := el) g6 (by simp; omega) hcap hzs (by omega)
                    exact ⟨_, _, ρ', hrun, ⟨hp1.trans r1, rfl, rfl, rfl⟩, by rw [hnx] at r2; exact r2⟩
                  cases cap with
                  | some c' =>
                    simp only [] at hc
                    obtain ⟨rfl, hk, rfl⟩ := hs.ex _ rfl
                    cases hle : Nat.ble (Nat.add n (m + 1)) cp with
                    | true =>
                      rw [hle] at hc
                      simp only [] at hc
                      have hle' : n + (m + 1) ≤ cp := Nat.le_of_ble_eq_true hle
                      cases hw : writeL s b (Nat.add o (Nat.mul n j.size)) new with
                      | none => rw [hw] at hc; cases hc
                      | some s1 =>
                        rw [hw] at hc
                        cases hc
                        obtain ⟨w', q1, q2⟩ := run_writeL (P := P) h hw hp n1
                        have q1' : (storeCells ⟨p.c, p.o + o + n * j.size, none⟩ news).run P w = .ok () w' := by rw [Nat.add_assoc]; exact q1
                        have e1 : (n + (m + 1)) * j.size ≤ cp * j.size := Nat.mul_le_mul_right _ hle'
                        refine ⟨_, w', ρ, room w' hle' q1', q2, ⟨p, _, _, hp, rfl, ⟨hs.zpos, hle', hs.ex, hs.op, hs.tot, ?_⟩⟩⟩
                        show o + (n + (m + 1)) * j.size ≤ p.kn
                        omega
                    | false =>
                      rw [hle] at hc
                      simp only [] at hc
                      have hle' : cp < n + (m + 1) := by
                        rcases Nat.lt_or_ge cp (n + (m + 1)) with h | h
                        · exact h
                        · have : Nat.ble (Nat.add n (m + 1)) cp = true := Nat.ble_eq_true_of_le h
                          rw [this] at hle; cases hle
                      unfold appGrow at hc
                      cases hlo : readL s.h.get b o (Nat.mul n j.size) with
                      | none => rw [hlo] at hc; cases hc
                      | some lo =>
                        rw [hlo] at hc
                        cases hc
                        exact grown lo hlo hle' s (Post.refl h) rfl 0 [] (Nat.zero_le _)
                  | none =>
                    simp only [] at hc
                    unfold appOpen at hc
                    cases hro : rowOf s.h.get b with
                    | none => rw [hro] at hc; cases hc
                    | some r =>
                      rw [hro] at hc
                      simp only [] at hc
                      have hrow := rowOf_some hro
                      obtain ⟨ob, _, arr, ty', fz, _, hrr⟩ := h.sees.row b _ p hrow rfl hp
                      have hkn := hrr.kn
                      obtain ⟨o1, o2⟩ := hs.op rfl
                      obtain ⟨q, rn, leaf, sh, anc⟩ := r
                      unfold appOpenR at hc
                      simp only [] at hc hkn
                      cases hle : Nat.ble (Nat.add o (Nat.mul (Nat.add n (m + 1)) j.size)) rn with
                      | true =>
                        rw [hle] at hc
                        simp only [] at hc
                        have hle' : o + (n + (m + 1)) * j.size ≤ rn := Nat.le_of_ble_eq_true hle
                        cases hw : writeL s b (Nat.add o (Nat.mul n j.size)) new with
                        | none => rw [hw] at hc; cases hc
                        | some s1 =>
                          rw [hw] at hc
                          cases hc
                          obtain ⟨w', q1, q2⟩ := run_writeL (P := P) h hw hp n1
                          have q1' : (storeCells ⟨p.c, p.o + o + n * j.size, none⟩ news).run P w = .ok () w' := by rw [Nat.add_assoc]; exact q1
                          have hcp : n + (m + 1) ≤ cp := by
                            have : (n + (m + 1)) * j.size ≤ cp * j.size := by omega
                            exact Nat.le_of_mul_le_mul_right this (by omega)
                          have had := sl_ad hs (by omega)
                          refine ⟨_, w', ρ, room w' hcp q1', q2, ⟨p, _, _, hp, rfl, ⟨hs.zpos, hcp, (fun k hk => by cases hk), fun hh => ⟨o1, .inl rfl⟩, hs.tot, ?_⟩⟩⟩
                          show o + (n + (m + 1)) * j.size ≤ p.kn
                          omega
                      | false =>
                        rw [hle] at hc
                        simp only [] at hc
                        cases hbb : and leaf (Nat.beq (Nat.add o (Nat.mul n j.size)) rn) with
                        | false => rw [hbb] at hc; cases hc
                        | true =>
                          rw [hbb] at hc
                          simp only [] at hc
                          rw [Bool.and_eq_true] at hbb
                          obtain ⟨hlf, hon⟩ := hbb
                          have hon : o + n * j.size = rn := Nat.eq_of_beq_eq_true hon
                          subst hlf
                          cases hlo : q.getL (Nat.mul n j.size) o with
                          | none => rw [hlo] at hc; cases hc
                          | some lo =>
                            rw [hlo] at hc
                            cases hc
                            by_cases hcp : n + (m + 1) ≤ cp
                            · have e1 : (n + (m + 1)) * j.size ≤ cp * j.size := Nat.mul_le_mul_right _ hcp
                              obtain ⟨w', q1, q2⟩ := extend_ok (P := P) h (m := m + 1) hrow rfl hp hon hlo n1 n2 (by omega)
                              refine ⟨_, w', _, room w' hcp q1, q2, ?_⟩
                              refine ⟨⟨p.c, p.o + o, p.tot, (n + (m + 1)) * j.size⟩, _, cp, if_pos rfl, rfl, ⟨hs.zpos, hcp, fun k hk => (by cases hk), fun _ => ⟨?_, .inl rfl⟩, ?_, ?_⟩⟩
                              · show (n + (m + 1)) * j.size ≤ 0 + cp * j.size; omega
                              · show p.o + o + 0 + cp * j.size ≤ p.tot; omega
                              · show 0 + (n + (m + 1)) * j.size ≤ (n + (m + 1)) * j.size; omega
                            · have hlo' : readL s.h.get b o (n * j.size) = some lo := by
                                unfold readL
                                rw [hro]
                                show readR _ o (n * j.size) = _
                                unfold readR
                                simp only []
                                rw [Nat.ble_eq_true_of_le (show Nat.add o (n * j.size) ≤ rn from Nat.le_of_eq hon)]
                                exact hlo
                              exact grown lo hlo' (by omega) _ (Post.seal h hrow) rfl _ _ (Nat.le_refl _)

end
end Ev

set_option linter.unusedVariables false
set_option linter.unusedSimpArgs false
namespace Ev
open Go

section
variable {P : Program} {w : World} {E : Env} {ρ : Mp} {a : A} {e : Operand → Value} {x y : Operand} {s s' : St}

theorem copyTo_ok (h : HRel ρ s.h.get s.nx w.heap) {b o m : Nat} {l : List C} {vs : List Value} {c : C} (hr : copyTo s b o m l = .ok c s') (hv : LRel ρ l vs) {p : Place} (hp : ρ b = some p) {ad : Addr}
    (had : m ≠ 0 → ad = ⟨p.c, p.o + o, none⟩) (hm : m = 0 → vs = []) :
    ∃ w', (storeCells ad vs).run P w = .ok () w' ∧ (Post ρ s w.heap ρ s' w'.heap ∧ Same w w') ∧ c = .int .i64 (m : Int) := by
  unfold copyTo at hr
  cases m with
  | zero =>
    cases hr
    rw [hm rfl]
    exact ⟨w, rfl, ⟨Post.refl h, Same.refl w⟩, rfl⟩
  | succ m =>
    simp only [] at hr
    cases hw : writeL s b o l with
    | none => rw [hw] at hr; cases hr
    | some s1 =>
      rw [hw] at hr
      cases hr
      obtain ⟨w', q1, q2⟩ := run_writeL (P := P) h hw hp hv
      exact ⟨w', by rw [had (by omega)]; exact q1, q2, rfl⟩

theorem copy_ok (hE : EnvOk E P) (h : HRel ρ s.h.get s.nx w.heap) (hx : OpRel ρ a e x) (hy : OpRel ρ a e y) {ts : Array Nat} {ty : TypeId} {v : V} (hr : aCopy E a ts x y s = .ok v s') :
    ∃ u w', (Builtin.copy_ ts ty #[e x, e y]).run P w = .ok u w' ∧ (Post ρ s w.heap ρ s' w'.heap ∧ Same w w') ∧ VRel ρ v u := by
  unfold aCopy at hr
  cases h0 : ts[0]? with
  | none => rw [h0] at hr; cases hr
  | some t =>
    rw [h0] at hr
    simp only [] at hr
    cases h1 : opC a x with
    | none => rw [h1] at hr; cases hr
    | some cx =>
      rw [h1] at hr
      simp only [] at hr
      cases h2 : opC a y with
      | none => rw [h2] at hr; cases hr
      | some cy =>
        rw [h2] at hr
        simp only [] at hr
        obtain ⟨c, hc, rfl⟩ := csOk hr
        clear hr
        have hcx := toC_rel hx h1
        have hcy := toC_rel hy h2
        unfold copy at hc
        cases hj : elemTI E t with
        | none => rw [hj] at hc; cases hc
        | some j =>
          rw [hj] at hc
          simp only [] at hc
          obtain ⟨el, f, g1, g2, g3, g4, g5, g6, g7, z, hz⟩ := elemTI_some hE hj
          have base : ∀ (bs : Option Addr) (n cp m : Nat) (yv : Value) (vs : List Value) (w' : World), (Builtin.lenOf yv).run P w = .ok m w → (Builtin.firstCells f.size (Nat.min m n) yv).run P w = .ok vs.toArray w →
              (∀ ad, bs = some ad → (storeCells ad vs).run P w = .ok () w') → (bs = none → w' = w) →
              (Builtin.copy_ ts ty #[.slice bs n cp, yv]).run P w = .ok (.int .i64 (Nat.min m n : Nat)) w' := by
            intro bs n cp m yv vs w' q1 q2 q3 q4
            cases bs with
            | none =>
              have := q4 rfl
              subst this
              simp [Builtin.copy_, h0, run_und g1, run_size g3, q1, q2, goInt]
            | some ad => simp [Builtin.copy_, h0, run_und g1, run_size g3, q1, q2, q3 ad rfl, goInt]
          cases cx <;> simp only [] at hc <;> try (cases hc; done)
          case nils =>
            have ex : e x = .slice none 0 0 := hcx
            rw [ex]
            cases hn : newCells s.h.get j.size cy with
            | none => rw [hn] at hc; cases hc
            | some mn =>
              obtain ⟨m, new⟩ := mn
              rw [hn] at hc
              cases hc
              obtain ⟨hlen, news, n1, n2, n3⟩ := newCells_ok (P := P) h.sees hcy g6 hn
              have h00 : (Builtin.firstCells f.size (Nat.min m 0) (e y)).run P w = .ok ([] : List Value).toArray w := by
                rw [show Nat.min m 0 = 0 from Nat.min_zero m]
                cases cy <;> simp only [newCells] at hn <;> try (cases hn; done)
                case str => obtain ⟨bs, ey, _⟩ := hcy; rw [ey]; simp [Builtin.firstCells]
                case nils => have ey : e y = .slice none 0 0 := hcy; rw [ey]; rfl
                case sl => obtain ⟨p, ad, cp, _, ey, _⟩ := hcy; rw [ey]; simp [Builtin.firstCells, loadCells, loadCellsFrom]
                case dat => obtain ⟨ad, cp, ey, _⟩ := dat_sl hcy; rw [ey]; simp [Builtin.firstCells, loadCells, loadCellsFrom]
              have := base none 0 0 m (e y) [] w (hlen w) h00 (fun _ h => by cases h) (fun _ => rfl)
              rw [show Nat.min m 0 = 0 from Nat.min_zero m] at this
              exact ⟨_, w, this, ⟨Post.refl h, Same.refl w⟩, rfl⟩
          case sl b o n cap zz =>
            obtain ⟨p, ad, cp, hp, ex, hs⟩ := hcx
            rw [ex]
            have had : ∀ m, Nat.min m n ≠ 0 → ad = ⟨p.c, p.o + o, none⟩ := fun m hm => sl_ad hs (by have h1 := hs.le; have h2 : Nat.min m n ≤ n := Nat.min_le_right m n; omega)
            cases cy <;> simp only [] at hc <;> try (cases hc; done)
            case nils =>
              have ey : e y = .slice none 0 0 := hcy
              cases hc
              have := base (some ad) n cp 0 (e y) [] w (by rw [ey]; rfl) (by rw [ey]; rfl) (fun _ _ => rfl) (fun h => by cases h)
              rw [show Nat.min 0 n = 0 from Nat.zero_min n] at this
              exact ⟨_, w, this, ⟨Post.refl h, Same.refl w⟩, rfl⟩
            case sl b' o' n' cap' zz' =>
              cases hl : readL s.h.get b' o' (Nat.mul (Nat.min n' n) j.size) with
              | none => rw [hl] at hc; cases hc
              | some l =>
                rw [hl] at hc
                simp only [] at hc
                obtain ⟨p', ad', cp', hp', ey, hs'⟩ := hcy
                obtain ⟨vs, q1, q2, _, q3⟩ := readL_rel h.sees hl hp'
                have hvs : Nat.min n' n = 0 → vs = [] := fun h0 => by
                  have : vs.length = 0 := by rw [q2, h0]; exact Nat.zero_mul _
                  simpa using this
                obtain ⟨w', r1, r2, rfl⟩ := copyTo_ok (P := P) (ad := ad) h hc q1 hp (had n') hvs
                have hfo : (Builtin.firstCells f.size (Nat.min n' n) (e y)).run P w = .ok vs.toArray w := by
                  rw [ey]
                  show (loadCells ad' (Nat.min n' n * f.size)).run P w = _
                  rw [g4]
                  have := run_loadCells_list (P := P) w ⟨p'.c, p'.o + o', none⟩ vs (q3 w rfl)
                  rw [q2] at this
                  by_cases hm : Nat.min n' n = 0
                  · rw [hvs hm, hm, Nat.zero_mul]; rfl
                  · rw [sl_ad hs' (by have h1 := hs'.le; have h2 : Nat.min n' n ≤ n' := Nat.min_le_left n' n; omega)]; exact this
                have := base (some ad) n cp n' (e y) vs w' (by rw [ey]; rfl) hfo (fun _ h => by cases h; exact r1) (fun h => by cases h)
                exact ⟨_, w', this, r2, rfl⟩
            case str zs =>
              obtain ⟨bs, ey, rfl⟩ := hcy
              rw [str_len] at hc
              have hk : Nat.min bs.size n ≤ bs.size := Nat.min_le_left _ _
              generalize hkk : Nat.min bs.size n = k at hc hk had
              have hsub : (Str.of bs).sub 0 k = Str.of (bs.extract 0 k) := by
                rw [Str.of_eq, Str.sub_ofL _ _ _ (Nat.zero_le _) (by simpa using hk), Str.of_eq]
                congr 1
                simp [ByteArray.extract, ByteArray.copySlice]
              have hes : (bs.extract 0 k).size = k := by simp; omega
              rw [hsub] at hc
              have hB : bytesC (Str.of (bs.extract 0 k)) k = (bs.extract 0 k).data.toList.map (fun b => C.int .u8 (b.toNat : Int)) := by
                have := bytesC_eq (bs.extract 0 k) k (by omega)
                rw [this, hes]; simp
              rw [hB] at hc
              have hl : LRel ρ ((bs.extract 0 k).data.toList.map (fun b => C.int .u8 (b.toNat : Int))) ((bs.extract 0 k).data.toList.map (fun b => Value.int .u8 (b.toNat : Int))) := by
                generalize (bs.extract 0 k).data.toList = q
                induction q with
                | nil => exact .nil
                | cons b q ih => exact .cons rfl ih
              have hvl : ((bs.extract 0 k).data.toList.map (fun b => Value.int .u8 (b.toNat : Int))).length = k := by
                rw [List.length_map]; exact hes
              obtain ⟨w', r1, r2, rfl⟩ := copyTo_ok (P := P) (ad := ad) h hc hl hp (fun h0 => had bs.size (by rw [hkk]; exact h0)) (fun h0 => List.length_eq_zero_iff.1 (hvl.trans h0))
              have hfo : (Builtin.firstCells f.size (Nat.min bs.size n) (e y)).run P w = .ok ((bs.extract 0 k).data.toList.map (fun b => Value.int .u8 (b.toNat : Int))).toArray w := by
                rw [ey, hkk]
                simp only [Builtin.firstCells, Sem.run_pure]
                congr 1
                apply Array.ext'
                simp
              have := base (some ad) n cp bs.size (e y) _ w' (by rw [ey]; rfl) hfo (fun _ h => by cases h; exact r1) (fun h => by cases h)
              rw [hkk] at this
              exact ⟨_, w', this, r2, rfl⟩


theorem Post.setObj (h : HRel ρ s.h.get s.nx w.heap) {b : Nat} {x x' : Blk} {p : Place} (hb : s.h.get b = some x) (hx : ∀ r, x ≠ .row r) (hx' : ∀ r, x' ≠ .row r) (hw : wr x = true) (hw' : wr x' = true) (hp : ρ b = some p)
    {o' : Obj} (hbr : BlkRel ρ p x' o') : Post ρ s w.heap ρ ⟨s.h.set b x', s.nx⟩ (w.heap.setIfInBounds p.c o') := by
  obtain ⟨p0, ob, e1, e2, e3⟩ := h.blk b x hb (wr_alive hw)
  rw [hp] at e1; cases e1
  have hcs : p.c < w.heap.size := (Array.getElem?_eq_some_iff.1 e2).1
  have alone : ∀ b' y q, b' ≠ b → s.h.get b' = some y → alive y = true → ρ b' = some q → q.c ≠ p.c := by
    intro b' y q hne hy ha hq hc
    obtain ⟨r1, _, s1, _⟩ := h.apart b x b' y p q hb hw hy ha hne hp hq hc.symm
    exact hx r1 s1
  have hlook : ∀ c, (s.h.set b x').get c = if c = b then some x' else s.h.get c := fun c => T.get_set _ _ _ _
  refine ⟨Snap.le_refl _, fun _ _ _ h => .inl h, fun _ _ => rfl, Nat.le_refl _, ⟨?_, ?_, h.dom, ?_, ?_⟩, by simp, ?_, ?_, ?_⟩
  · intro c i v hm
    rw [Array.getElem?_setIfInBounds_ne (fun e => h.away b x p hb hw hp i v (by rw [e]; exact hm))]
    exact h.lies c i v hm
  · intro c y q hy hwy hq
    simp only [hlook] at hy
    by_cases e : c = b
    · subst e
      rw [hp] at hq; cases hq
      exact h.away c x p hb hw hp
    · rw [if_neg e] at hy
      exact h.away c y q hy hwy hq
  · intro c y hy ha
    simp only [hlook] at hy
    by_cases e : c = b
    · rw [if_pos e] at hy; cases hy; subst e
      exact ⟨p, o', hp, by simp [hcs], hbr⟩
    · rw [if_neg e] at hy
      obtain ⟨q, oq, u1, u2, u3⟩ := h.blk c y hy ha
      exact ⟨q, oq, u1, by rw [Array.getElem?_setIfInBounds_ne (Ne.symm (alone c y q e hy ha u1))]; exact u2, u3⟩
  · intro c y c' y' q q' hy hwy hy' ha hne hq hq' hc
    simp only [hlook] at hy hy'
    by_cases e : c = b
    · subst e
      rw [hp] at hq; cases hq
      rw [if_neg hne] at hy'
      exact absurd hc.symm (alone c' y' q' hne hy' ha hq')
    · rw [if_neg e] at hy
      by_cases e' : c' = b
      · subst e'
        rw [hp] at hq'; cases hq'
        exact absurd hc (alone c y q e hy (wr_alive hwy) hq)
      · rw [if_neg e'] at hy'
        exact h.apart c y c' y' q q' hy hwy hy' ha hne hq hq' hc
  · intro c hc hn
    rw [Array.getElem?_setIfInBounds_ne (hn b x p hb hw hp)]
  · intro c y q hy hwy hq _
    simp only [hlook] at hy
    by_cases e : c = b
    · subst e; exact ⟨c, x, q, hb, hw, hq, rfl⟩
    · rw [if_neg e] at hy; exact ⟨c, y, q, hy, hwy, hq, rfl⟩
  · intro c y q hy hwy hq _
    simp only [hlook] at hy
    by_cases e : c = b
    · subst e; exact ⟨c, x, q, hb, wr_alive hw, hq, rfl⟩
    · rw [if_neg e] at hy; exact ⟨c, y, q, hy, hwy, hq, rfl⟩

theorem run_setObj {r : Nat} {o o' : Obj} (h : w.heap[r]? = some o) (hn : ∀ c el fz, o ≠ .cells c el fz) : (setObj r o').run P w = .ok () { w with heap := w.heap.setIfInBounds r o' } := by
  show Sem.run P (Sem.setObj r o' (.pure ())) w = _
  cases o <;> first | exact absurd rfl (hn _ _ _) | simp only [Sem.run, h]

theorem next_ok (h : HRel ρ s.h.get s.nx w.heap) (hx : OpRel ρ a e x) {isS : Bool} {ty : TypeId} {v : V} (hr : aNext a x isS s = .ok v s') :
    ∃ u w', (Instr.next (e x) isS ty).run P w = .ok u w' ∧ (Post ρ s w.heap ρ s' w'.heap ∧ Same w w') ∧ VRel ρ v u := by
  unfold aNext at hr
  cases hc : opC a x with
  | none => rw [hc] at hr; cases hr
  | some c =>
    rw [hc] at hr
    simp only [] at hr
    have hcx := toC_rel hx hc
    unfold next at hr
    cases c <;> (try simp only [] at hr) <;> try (cases hr; done)
    rename_i r o
    cases o <;> (try simp only [] at hr) <;> try (cases hr; done)
    cases isS <;> (try simp only [] at hr) <;> try (cases hr; done)
    cases hl : s.h.get r with
    | none => rw [hl] at hr; cases hr
    | some b =>
      rw [hl] at hr
      cases b <;> simp only [] at hr <;> try (cases hr; done)
      rename_i z i
      obtain ⟨p, hp, ex⟩ := hcx
      obtain ⟨p', ob, q1, q2, bs, rfl, rfl, q3⟩ := h.blk r _ hl rfl
      rw [hp] at q1; cases q1
      have ex' : e x = .pointer (some ⟨p.c, 0, none⟩) := by rw [ex, q3]; rfl
      have hgo : (getObj p.c).run P w = .ok (.stringIter bs i) w := by
        show Sem.run P (Sem.getObj p.c Sem.pure) w = _
        simp only [Sem.run, q2]
      unfold nextI at hr
      cases hb : Nat.ble (Nat.succ i) (Str.of bs).len with
      | true =>
        rw [hb] at hr
        simp only [] at hr
        have hi : i < bs.size := Nat.le_of_ble_eq_true hb
        rw [dec_eq bs i hi] at hr
        obtain ⟨hh, nx⟩ := s
        simp only [] at hr
        cases hr
        refine ⟨.tuple #[.bool true, goInt i, .int .i32 (Utf8.decode bs i).1], { w with heap := w.heap.setIfInBounds p.c (.stringIter bs (i + (Utf8.decode bs i).2)) }, ?_, ?_, ?_⟩
        · unfold Instr.next
          simp only [ex', Sem.run_bind, hgo, Result.andThen_ok, if_pos hi, run_setObj q2 (by intro _ _ _ h; cases h), Sem.run_pure]
        · exact ⟨Post.setObj h hl (fun _ h => by cases h) (fun _ h => by cases h) rfl rfl hp ⟨bs, rfl, rfl, q3⟩, rfl, rfl, rfl⟩
        · exact ⟨_, rfl, .cons rfl (.cons rfl (.cons rfl .nil))⟩
      | false =>
        rw [hb] at hr
        cases hr
        have hi : ¬ i < bs.size := fun hi => by rw [Nat.ble_eq_true_of_le (show Nat.succ i ≤ (Str.of bs).len from hi)] at hb; cases hb
        refine ⟨.tuple #[.bool false], w, ?_, ⟨Post.refl h, Same.refl w⟩, ⟨_, rfl, .cons rfl .nil⟩⟩
        unfold Instr.next
        simp only [ex', Sem.run_bind, hgo, Result.andThen_ok, if_neg hi, Sem.run_pure]

theorem put_ok {d : TypeDesc} {k : C} {u x : Value} {v : W} (hd : ((∃ j, d = .int j) ∧ ∃ j n, k = .int j n) ∨ (d = .string ∧ ∃ s, k = .str s)) (hk : CRel ρ k u) (hv : WRel ρ v x) :
    ∀ (es es' : List (C × W)) (arr : List MapEntry) (i : Nat), All2 (EntRel ρ) es arr → putK k v es = some es' →
      (Instr.findNow d u arr i = some none ∧ ∀ c, All2 (EntRel ρ) es' (arr ++ [{ key := u, val := x, born := c }])) ∨
      (∃ j en, Instr.findNow d u arr i = some (some (i + j, en.val)) ∧ arr[j]? = some en ∧ en.key = u ∧ All2 (EntRel ρ) es' (arr.modify j fun e => { e with key := u, val := x })) := by
  intro es
  induction es with
  | nil =>
    intro es' arr i ha h
    cases ha
    left
    refine ⟨rfl, fun c => ?_⟩
    cases k <;> simp only [putK] at h <;> try (cases h; done)
    all_goals (cases h; exact .cons ⟨hk, hv⟩ .nil)
  | cons p es ih =>
    intro es' arr i ha h
    obtain ⟨c, v0⟩ := p
    cases ha with
    | cons h1 h2 =>
      rename_i en arr
      obtain ⟨hc, hv0⟩ := h1
      obtain ⟨s1, s2⟩ := same_key hd hk hc
      have go : ∀ (b : Bool), Instr.sameNow d u en.key = some b → (b = true → en.key = u) → (b = true → es' = (k, v) :: es ∨ es' = (c, v) :: es ∧ False) → (b = false → ∃ l, putK k v es = some l ∧ es' = (c, v0) :: l) →
          (Instr.findNow d u (en :: arr) i = some none ∧ ∀ c, All2 (EntRel ρ) es' (en :: arr ++ [{ key := u, val := x, born := c }])) ∨
          (∃ j en', Instr.findNow d u (en :: arr) i = some (some (i + j, en'.val)) ∧ (en :: arr)[j]? = some en' ∧ en'.key = u ∧ All2 (EntRel ρ) es' ((en :: arr).modify j fun e => { e with key := u, val := x })) := by
        intro b hb hb1 ht hf
        cases b with
        | true =>
          right
          refine ⟨0, en, by simp only [Instr.findNow, hb, Nat.add_zero], rfl, hb1 rfl, ?_⟩
          rcases ht rfl with rfl | ⟨_, hF⟩
          · simp only [List.modify_zero_cons]; exact .cons ⟨hk, hv⟩ h2
          · exact hF.elim
        | false =>
          obtain ⟨l, g1, rfl⟩ := hf rfl
          rcases ih l arr (i + 1) h2 g1 with ⟨q1, q2⟩ | ⟨j, en', q1, q2, q3, q4⟩
          · left
            refine ⟨by simp only [Instr.findNow, hb, q1], fun cc => .cons ⟨hc, hv0⟩ (q2 cc)⟩
          · right
            refine ⟨j + 1, en', by simp only [Instr.findNow, hb, q1]; congr 3; omega, by simpa using q2, q3, ?_⟩
            simp only [List.modify_succ_cons]
            exact .cons ⟨hc, hv0⟩ q4
      simp only [putK] at h
      cases k <;> cases c <;> simp only [] at h <;> try (cases h; done)
      case int.int j aa j' bb =>
        cases hj : kEq j j' with
        | false => rw [hj] at h; cases h
        | true =>
          rw [hj] at h
          simp only [] at h
          obtain ⟨q1, q2⟩ := s1 j aa j' bb rfl rfl hj
          refine go _ q1 q2 (fun hi => ?_) (fun hi => ?_)
          · rw [hi] at h; cases h; exact .inl rfl
          · rw [hi] at h; simp only [] at h
            cases hp : putK (.int j aa) v es with
            | none => rw [hp] at h; cases h
            | some l => rw [hp] at h; cases h; exact ⟨l, rfl, rfl⟩
      case str.str aa bb =>
        obtain ⟨q1, q2⟩ := s2 aa bb rfl rfl
        refine go _ q1 q2 (fun hi => ?_) (fun hi => ?_)
        · rw [hi] at h; cases h; exact .inl rfl
        · rw [hi] at h; simp only [] at h
          cases hp : putK (.str aa) v es with
          | none => rw [hp] at h; cases h
          | some l => rw [hp] at h; cases h; exact ⟨l, rfl, rfl⟩


theorem keyStays {u : Value} {k : C} (hd : (∃ j n, k = .int j n) ∨ (∃ s, k = .str s)) (hk : CRel ρ k u) : (Instr.keyThatStays u u).run P w = .ok u w := by
  have : Instr.sameBits 10000 u u = true := by
    rcases hd with ⟨j, n, rfl⟩ | ⟨s, rfl⟩
    · have e : u = .int j n := hk
      subst e; simp [Instr.sameBits]
    · obtain ⟨bs, rfl, _⟩ := hk
      simp only [Instr.sameBits, MapKept.bytes_beq]
  unfold Instr.keyThatStays
  rw [if_pos this]; rfl

theorem map_ok (hE : EnvOk E P) (h : HRel ρ s.h.get s.nx w.heap) {m k x : Operand} (hm : OpRel ρ a e m) (hk : OpRel ρ a e k) (hx : OpRel ρ a e x) {t : TypeId} {v : V} (hr : aMap E t a m k x s = .ok v s') :
    v = .un ∧ ∃ w', (Instr.mapUpdate t (e m) (e k) (e x)).run P w = .ok () w' ∧ Post ρ s w.heap ρ s' w'.heap ∧ Same w w' := by
  unfold aMap at hr
  cases h1 : opC a m with
  | none => rw [h1] at hr; cases hr
  | some cm =>
    rw [h1] at hr
    simp only [] at hr
    cases h2 : opC a k with
    | none => rw [h2] at hr; cases hr
    | some ck =>
      rw [h2] at hr
      simp only [] at hr
      cases h3 : opW a x with
      | none => rw [h3] at hr; cases hr
      | some wx =>
        rw [h3] at hr
        simp only [] at hr
        have hcm := toC_rel hm h1
        have hck := toC_rel hk h2
        have hwx := toW_rel hx h3
        cases hu : mapUpdate E t cm ck wx s with
        | none => rw [hu] at hr; cases hr
        | some s1 =>
          rw [hu] at hr
          cases hr
          refine ⟨rfl, ?_⟩
          unfold mapUpdate at hu
          cases hki : keyIs E t ck with
          | false => rw [hki] at hu; cases hu
          | true =>
            rw [hki] at hu
            unfold keyIs at hki
            cases ht : undT E t with
            | none => rw [ht] at hki; cases hki
            | some ty =>
              rw [ht] at hki
              have ht' := (undT_some hE ht).1
              cases ty <;> simp only [] at hki <;> try (cases hki; done)
              rename_i kt el
              obtain ⟨d, hd, hdk⟩ := keyOk_some hE hki
              cases cm <;> (try simp only [] at hu) <;> try (cases hu; done)
              rename_i r
              cases hl : s.h.get r with
              | none => rw [hl] at hu; cases hu
              | some b =>
                rw [hl] at hu
                cases b <;> (try simp only [] at hu) <;> try (cases hu; done)
                rename_i es
                cases hp : putK ck wx es with
                | none => rw [hp] at hu; cases hu
                | some es' =>
                  rw [hp] at hu
                  obtain ⟨p, hpp, ex⟩ := hcm
                  obtain ⟨p', ob, q1, q2, arr, clk, rfl, q3⟩ := h.blk r _ hl rfl
                  rw [hpp] at q1; cases q1
                  have hdp : (∃ j, d = .int j) ∨ d = .string := by rcases hdk with ⟨h, _⟩ | ⟨h, _⟩; exact .inl h; exact .inr h
                  have hkk : (∃ j n, ck = .int j n) ∨ (∃ s, ck = .str s) := by rcases hdk with ⟨_, h⟩ | ⟨_, h⟩; exact .inl h; exact .inr h
                  have hs1 : s' = ⟨s.h.set r (.map es'), s.nx⟩ := by cases s; cases hu; rfl
                  subst hs1
                  have post : ∀ o', BlkRel ρ p (.map es') o' → Post ρ s w.heap ρ ⟨s.h.set r (.map es'), s.nx⟩ (w.heap.setIfInBounds p.c o') := fun o' ho =>
                    Post.setObj h hl (fun _ h => by cases h) (fun _ h => by cases h) rfl rfl hpp ho
                  rcases put_ok hdk hck hwx es es' arr.toList 0 q3 hp with ⟨f1, f2⟩ | ⟨j, en, f1, f2, f3, f4⟩
                  · refine ⟨{ w with heap := w.heap.setIfInBounds p.c (.map (arr.push { key := e k, val := e x, born := clk }) (clk + 1)) }, ?_, post _ ⟨_, _, rfl, by simpa using f2 clk⟩, rfl, rfl, rfl⟩
                    unfold Instr.mapUpdate Instr.findKey
                    simp only [Sem.run_bind, run_und ht', run_und hd, Result.andThen_ok, ex, MapKept.run_getObj_map q2, checkKey_ok hd hdp, f1, Sem.run_pure, run_setObj q2 (by intro _ _ _ h; cases h)]
                  · refine ⟨{ w with heap := w.heap.setIfInBounds p.c (.map (arr.modify j fun en => { en with key := e k, val := e x }) clk) }, ?_, post _ ⟨_, _, rfl, by rw [Array.toList_modify]; exact f4⟩, rfl, rfl, rfl⟩
                    have f2' : arr[j]? = some en := by simpa using f2
                    unfold Instr.mapUpdate Instr.findKey
                    simp only [Sem.run_bind, run_und ht', run_und hd, Result.andThen_ok, ex, MapKept.run_getObj_map q2, checkKey_ok hd hdp, f1, Sem.run_pure, Nat.zero_add, f2', Option.map_some, Option.getD_some, f3, keyStays hkk hck, run_setObj q2 (by intro _ _ _ h; cases h)]

end
end Ev
