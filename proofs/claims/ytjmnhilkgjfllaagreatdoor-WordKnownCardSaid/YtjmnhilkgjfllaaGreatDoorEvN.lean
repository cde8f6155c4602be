import Derived.Test.YtjmnhilkgjfllaaGreatDoorEvM
set_option linter.unusedVariables false
set_option linter.unusedSimpArgs false
namespace Ev
open Go

section
variable {P : Program} {w : World} {E : Env} {ρ : Mp} {a : A} {e : Operand → Value} {x y : Operand}

theorem bi {s : Sem Value} {u : Value} (h : s.run P w = .ok u w) : (do pure (Next.value (← s)) : Sem Next).run P w = .ok (.value u) w := by
  simp only [Sem.run_bind, h, Result.andThen_ok, Sem.run_pure]

theorem opB_r {b : Builtin} {ts : Array Nat} {args : List Operand} {rd : Bool} {f : Env → A → Look → Option V} (h : opB b ts args = .r rd f) :
    (∃ x, args = [x] ∧ b = .len ∧ rd = true ∧ f = fun E a look => rLen E look a ts x) ∨
    (∃ x, args = [x] ∧ b = .cap ∧ rd = true ∧ f = fun E a look => rCap E look a ts x) ∨
    (∃ x y, args = [x, y] ∧ b = .min ∧ rd = true ∧ f = fun _ a _ => rMin a x y) ∨
    (∃ x y, args = [x, y] ∧ b = .max ∧ rd = true ∧ f = fun _ a _ => rMax a x y) := by
  unfold opB at h
  split at h
  · split at h <;> first | (cases h; done) | (cases h; exact .inl ⟨_, rfl, rfl, rfl, rfl⟩) | (cases h; exact .inr (.inl ⟨_, rfl, rfl, rfl, rfl⟩))
  · split at h <;> first | (cases h; done) | (cases h; exact .inr (.inr (.inl ⟨_, _, rfl, rfl, rfl, rfl⟩))) | (cases h; exact .inr (.inr (.inr ⟨_, _, rfl, rfl, rfl, rfl⟩)))
  · cases h

theorem arr1 {args : Array Operand} {x : Operand} (h : args.toList = [x]) : args = #[x] := by cases args; simp at h; rw [h]
theorem arr2 {args : Array Operand} {x y : Operand} (h : args.toList = [x, y]) : args = #[x, y] := by cases args; simp at h; rw [h]

theorem call_r {c : Call} {rd : Bool} {f : Env → A → Look → Option V} (h : opCall c = .r rd f) : ∃ b, c.callee = .builtin b ∧ opB b c.argTypes c.args.toList = .r rd f := by
  unfold opCall at h
  cases hc : c.callee <;> rw [hc] at h <;> simp only [] at h <;> first | (cases h; done) | exact ⟨_, rfl, h⟩

theorem r_sound (hE : EnvOk E P) {look : Look} (h : Sees ρ look w.heap) (o : Oper) (ho : ∀ x ∈ o.op.operands, OpRel ρ a e x) {rd : Bool} {f : Env → A → Look → Option V}
    (hk : kOf E (opK o.op) = .r rd f) {v : V} (hf : f E a look = some v) : ∃ u, (execOp e o).run P w = .ok (.value u) w ∧ VRel ρ v u := by
  obtain ⟨dst, op, type, pos, after, guard⟩ := o
  simp only at ho hk
  unfold execOp
  cases op <;> simp only [opK, kOf] at hk <;> try (cases hk; done)
  case move x => cases hk; cases hf; exact ⟨e x, rfl, ho x (by simp [Op.operands])⟩
  case assign x => cases hk; cases hf; exact ⟨e x, rfl, ho x (by simp [Op.operands])⟩
  case load t x =>
    cases hk
    obtain ⟨u, h1, h2⟩ := load_ok hE h (ho x (by simp [Op.operands])) hf
    exact ⟨u, bi h1, h2⟩
  case fieldAddr t x f =>
    cases hk
    obtain ⟨u, h1, h2⟩ := fieldAddr_ok (w := w) hE (ho x (by simp [Op.operands])) hf
    exact ⟨u, bi h1, h2⟩
  case field t x f =>
    cases hk
    obtain ⟨u, h1, h2⟩ := field_ok (w := w) hE (ho x (by simp [Op.operands])) hf
    exact ⟨u, bi h1, h2⟩
  case binOp op t x y _ =>
    cases hk
    obtain ⟨u, h1, h2⟩ := bin_ok (w := w) hE (ho x (by simp [Op.operands])) (ho y (by simp [Op.operands])) hf
    exact ⟨u, bi h1, h2⟩
  case unOp op t x =>
    cases hk
    obtain ⟨u, h1, h2⟩ := un_ok (P := P) (w := w) (ho x (by simp [Op.operands])) hf
    exact ⟨u, bi h1, h2⟩
  case nilCheck x =>
    cases hk
    obtain ⟨ad, h1, h2⟩ := nil_ok (ho x (by simp [Op.operands])) hf
    exact ⟨e x, by simp only [h1, Sem.run_pure], h2⟩
  case pick c x y =>
    cases hk
    obtain ⟨b, h1, h2⟩ := pick_ok (ho c (by simp [Op.operands])) (ho x (by simp [Op.operands])) (ho y (by simp [Op.operands])) hf
    exact ⟨_, by simp only [h1, asBool, Sem.run_bind, Sem.run_pure, Result.andThen_ok], h2⟩
  case extract x i =>
    cases hk
    obtain ⟨u, h1, h2⟩ := extract_ok (P := P) (w := w) (ho x (by simp [Op.operands])) hf
    exact ⟨u, bi h1, h2⟩
  case indexAddr t x i =>
    cases hk
    obtain ⟨u, h1, h2⟩ := indexAddr_ok (w := w) hE (ho x (by simp [Op.operands])) (ho i (by simp [Op.operands])) hf
    exact ⟨u, bi h1, h2⟩
  case index t x i =>
    cases hk
    obtain ⟨u, h1, h2⟩ := index_ok (w := w) hE (ho x (by simp [Op.operands])) (ho i (by simp [Op.operands])) hf
    exact ⟨u, bi h1, h2⟩
  case build t ps =>
    cases hk
    obtain ⟨u, h1, h2⟩ := build_ok (w := w) hE (ps := ps) (fun x hx => ho x.2 (by simp [Op.operands]; exact ⟨x.1, by simpa using hx⟩)) hf
    exact ⟨u, bi h1, h2⟩
  case slice t x lo hi mx =>
    cases hk
    obtain ⟨u, h1, h2⟩ := slice_ok hE h (ho x (by simp [Op.operands])) (lo := lo) (hi := hi) (mx := mx) (fun x hx => ho x (by simp [Op.operands, hx])) (fun x hx => ho x (by simp [Op.operands, hx])) (fun x hx => ho x (by simp [Op.operands, hx])) hf
    exact ⟨u, bi h1, h2⟩
  case convert s d x =>
    cases hn : isNew E d with
    | true => rw [hn] at hk; cases hk
    | false =>
      rw [hn] at hk
      cases hk
      obtain ⟨u, h1, h2⟩ := convert_ok hE h (ho x (by simp [Op.operands])) hf
      exact ⟨u, bi h1, h2⟩
  case makeInterface t x =>
    cases hk
    obtain ⟨u, h1, h2⟩ := mkIface_ok (w := w) hE (ho x (by simp [Op.operands])) hf
    exact ⟨u, bi h1, h2⟩
  case makeFunc fn first cap =>
    cases hk
    obtain ⟨u, h1, h2⟩ := mkFunc_ok (P := P) (w := w) (first := first) (cap := cap) (fun x hx => ho x (by simp [Op.operands]; exact .inr (by simpa using hx))) hf
    exact ⟨u, bi h1, h2⟩
  case lookup t m k ok =>
    cases hk
    obtain ⟨u, h1, h2⟩ := lookup_ok hE h (ho m (by simp [Op.operands])) (ho k (by simp [Op.operands])) hf
    exact ⟨u, bi h1, h2⟩
  case typeAssert x xt t ok =>
    cases hk
    obtain ⟨u, h1, h2⟩ := typeAssert_ok (w := w) (xt := xt) hE (ho x (by simp [Op.operands])) hf
    exact ⟨u, bi h1, h2⟩
  case makeMap t r => cases r <;> simp only [opK, kOf] at hk <;> cases hk
  case call c =>
    have hk' : opCall c = .r rd f := by
      cases hc : opCall c <;> rw [hc] at hk <;> simp only [kOf] at hk <;> try (cases hk; done)
      · cases hk; rfl
      · exfalso
        unfold opCall opB at hc
        repeat' split at hc <;> try (cases hc; done)
    obtain ⟨b, hc, hb⟩ := call_r hk'
    have hop : ∀ x ∈ c.args.toList, OpRel ρ a e x := fun x hx => ho x (by simp [Op.operands, Call.operands]; exact .inr (by simpa using hx))
    simp only [Sem.run_bind, resolve, hc, Sem.run_pure, Result.andThen_ok, invoke, builtin]
    rcases opB_r hb with ⟨x, ha, rfl, rfl, rfl⟩ | ⟨x, ha, rfl, rfl, rfl⟩ | ⟨x, y, ha, rfl, rfl, rfl⟩ | ⟨x, y, ha, rfl, rfl, rfl⟩
    · have ha' := arr1 ha
      obtain ⟨u, h1, h2⟩ := len_ok (ty := type) hE h (hop x (by rw [ha]; simp)) hf
      exact ⟨u, by rw [ha']; exact bi (by simpa using h1), h2⟩
    · have ha' := arr1 ha
      obtain ⟨u, h1, h2⟩ := cap_ok (w := w) (ty := type) hE h (hop x (by rw [ha]; simp)) hf
      exact ⟨u, by rw [ha']; exact bi (by simpa using h1), h2⟩
    · have ha' := arr2 ha
      obtain ⟨u, h1, h2⟩ := min_ok (P := P) (w := w) (ts := c.argTypes) (ty := type) (hop x (by rw [ha]; simp)) (hop y (by rw [ha]; simp)) hf
      exact ⟨u, by rw [ha']; exact bi (by simpa using h1), h2⟩
    · have ha' := arr2 ha
      obtain ⟨u, h1, h2⟩ := max_ok (P := P) (w := w) (ts := c.argTypes) (ty := type) (hop x (by rw [ha]; simp)) (hop y (by rw [ha]; simp)) hf
      exact ⟨u, by rw [ha']; exact bi (by simpa using h1), h2⟩

/-- what does not read does not look -/
theorem r_blind (o : Op) {f : Env → A → Look → Option V} (hk : kOf E (opK o) = .r false f) (l l' : Look) : f E a l = f E a l' := by
  cases o <;> simp only [opK, kOf] at hk <;> try (cases hk; done)
  all_goals try (cases hk; rfl)
  case convert s d x => cases hn : isNew E d <;> rw [hn] at hk <;> cases hk
  case makeMap t r => cases r <;> simp only [opK, kOf] at hk <;> cases hk
  case call c =>
    exfalso
    cases hc : opCall c <;> rw [hc] at hk <;> simp only [kOf] at hk <;> try (cases hk; done)
    · cases hk
      obtain ⟨b, _, hb⟩ := call_r hc
      rcases opB_r hb with ⟨x, _, _, h, _⟩ | ⟨x, _, _, h, _⟩ | ⟨x, y, _, _, h, _⟩ | ⟨x, y, _, _, h, _⟩ <;> cases h
    · unfold opCall opB at hc
      repeat' split at hc <;> try (cases hc; done)

end
end Ev
