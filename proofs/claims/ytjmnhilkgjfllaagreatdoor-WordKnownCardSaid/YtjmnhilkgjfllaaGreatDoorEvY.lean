import Derived.Test.YtjmnhilkgjfllaaGreatDoorEvX
set_option linter.unusedVariables false
set_option linter.unusedSimpArgs false
namespace Ev
open Go

/-! ### the masks -/
theorem testBit_lor (a b i : Nat) : (Nat.lor a b).testBit i = (a.testBit i || b.testBit i) := Nat.testBit_or a b i
theorem testBit_one (k i : Nat) : (Nat.shiftLeft 1 k).testBit i = decide (i = k) := by
  show (1 <<< k).testBit i = _
  rw [Nat.shiftLeft_eq, Nat.one_mul, Nat.testBit_two_pow]
  simp [eq_comm]
theorem maskOf_spec (M : List Nat) (j i : Nat) : ∀ (l : List Edge) (acc : Nat), (maskOf M j l acc).testBit i = true →
    acc.testBit i = true ∨ ∃ e ∈ l, Region.binds .any e = true ∧ (e.on = i ∨ (e.on < j ∧ (M.getD (j - 1 - e.on) 0).testBit i = true)) := by
  intro l
  induction l with
  | nil => intro acc h; exact .inl h
  | cons e l ih =>
    intro acc h
    simp only [maskOf] at h
    cases hb : Region.binds .any e with
    | false =>
      rw [hb] at h
      rcases ih acc h with g | ⟨e', he, g⟩
      · exact .inl g
      · exact .inr ⟨e', by simp [he], g⟩
    | true =>
      rw [hb] at h
      simp only [] at h
      rcases ih _ h with g | ⟨e', he, g⟩
      · rw [testBit_lor, testBit_lor, testBit_one, Bool.or_eq_true, Bool.or_eq_true] at g
        rcases g with (g | g) | g
        · exact .inl g
        · exact .inr ⟨e, by simp, hb, .inl (of_decide_eq_true g).symm⟩
        · cases hle : Nat.ble (Nat.succ e.on) j with
          | false => rw [hle] at g; simp at g
          | true =>
            rw [hle] at g
            exact .inr ⟨e, by simp, hb, .inr ⟨Nat.le_of_ble_eq_true hle, g⟩⟩
      · exact .inr ⟨e', by simp [he], g⟩

theorem masksL_spec : ∀ (l : List Oper) (j : Nat) (acc : List Nat), ∃ r : List Nat, (masksL l j acc).reverse = acc.reverse ++ r ∧ r.length = l.length ∧
    ∀ i o, l[i]? = some o → r[i]? = some (maskOf ((r.take i).reverse ++ acc) (j + i) o.after.toList 0) := by
  intro l
  induction l with
  | nil => intro j acc; exact ⟨[], by simp [masksL], rfl, fun i o h => by simp at h⟩
  | cons o l ih =>
    intro j acc
    simp only [masksL, force_eq]
    obtain ⟨r, h1, h2, h3⟩ := ih (Nat.succ j) (maskOf acc j o.after.toList 0 :: acc)
    refine ⟨maskOf acc j o.after.toList 0 :: r, by rw [h1]; simp, by simp [h2], ?_⟩
    intro i o' hi
    cases i with
    | zero => simp at hi; subst hi; simp
    | succ i =>
      simp at hi
      have := h3 i o' hi
      simp only [List.getElem?_cons_succ, List.take_succ_cons, List.reverse_cons, List.append_assoc, List.singleton_append]
      rw [this, show Nat.succ j + i = j + (i + 1) by omega]

theorem masks_spec (ops : List Oper) : (masks ops).length = ops.length ∧ ∀ j o m, ops[j]? = some o → (masks ops)[j]? = some m → ∀ i, m.testBit i = true →
    ∃ e ∈ o.after.toList, Region.binds .any e = true ∧ (e.on = i ∨ (e.on < j ∧ ∃ m', (masks ops)[e.on]? = some m' ∧ m'.testBit i = true)) := by
  obtain ⟨r, h1, h2, h3⟩ := masksL_spec ops 0 []
  have hm : masks ops = r := by unfold masks; rw [h1]; simp
  rw [hm]
  refine ⟨h2, fun j o m ho hj i hi => ?_⟩
  have := h3 j o ho
  rw [hj] at this
  cases this
  rcases maskOf_spec _ _ _ _ _ hi with g | ⟨e, he, hb, g⟩
  · simp at g
  · refine ⟨e, he, hb, ?_⟩
    rcases g with g | ⟨g1, g2⟩
    · exact .inl g
    · right
      rw [Nat.zero_add] at g1 g2
      refine ⟨g1, ?_⟩
      rw [List.append_nil, List.getD_eq_getElem?_getD] at g2
      have hjl : j < r.length := (List.getElem?_eq_some_iff.1 hj).1
      have hlen : (r.take j).length = j := by simp; omega
      rw [List.getElem?_reverse (by rw [hlen]; omega), hlen, List.getElem?_take, if_pos (by omega), show j - 1 - (j - 1 - e.on) = e.on by omega] at g2
      have he' : e.on < r.length := by omega
      rw [List.getElem?_eq_getElem he'] at g2 ⊢
      exact ⟨_, rfl, g2⟩

/-! ### what is apart -/
theorem apartL_spec (ops : List Oper) (o : Oper) (m : Nat) : ∀ (l : List Oper) (i : Nat), apartL ops o m l i = true → ∀ k x, l[k]? = some x → m.testBit (i + k) = true ∨ apartT ops x o = true := by
  intro l
  induction l with
  | nil => intro i _ k x h; simp at h
  | cons y l ih =>
    intro i h k x hx
    simp only [apartL] at h
    cases hb : or (tbit m i) (apartT ops y o) with
    | false => rw [hb] at h; cases h
    | true =>
      rw [hb] at h
      cases k with
      | zero =>
        simp at hx; subst hx
        rw [Bool.or_eq_true, tbit_eq] at hb
        simpa using hb
      | succ k =>
        simp at hx
        have := ih (Nat.succ i) h k x hx
        rwa [show Nat.succ i + k = i + (k + 1) by omega] at this

theorem apartA_spec (ops : List Oper) : ∀ (l seen : List Oper) (j : Nat) (ms : List Nat), seen.length = j → apartA ops seen j l ms = true →
    ∀ k o m, l[k]? = some o → ms[k]? = some m → (∀ i, m.testBit i = true → i < j + k) ∧ ∀ i x, (seen ++ l)[i]? = some x → i < j + k → m.testBit i = true ∨ apartT ops x o = true := by
  intro l
  induction l with
  | nil => intro seen j ms _ _ k o m h; simp at h
  | cons y l ih =>
    intro seen j ms hs h k o m ho hm
    cases ms with
    | nil => simp at hm
    | cons m0 ms =>
      simp only [apartA] at h
      cases hb : and (Nat.beq (Nat.shiftRight m0 j) 0) (apartL ops y m0 seen 0) with
      | false => rw [hb] at h; cases h
      | true =>
        rw [hb] at h
        rw [Bool.and_eq_true] at hb
        cases k with
        | zero =>
          simp at ho hm; subst ho hm
          refine ⟨fun i hi => ?_, fun i x hx hi => ?_⟩
          · have hz : m0 >>> j = 0 := Nat.eq_of_beq_eq_true hb.1
            rcases Nat.lt_or_ge i (j + 0) with g | g
            · exact g
            · have : (m0 >>> j).testBit (i - j) = m0.testBit i := by rw [Nat.testBit_shiftRight]; congr 1; omega
              rw [hz, hi] at this; simp at this
          · rw [List.getElem?_append_left (by omega)] at hx
            have := apartL_spec ops y m0 seen 0 hb.2 i x hx
            simpa using this
        | succ k =>
          simp at ho hm
          have := ih (seen ++ [y]) (Nat.succ j) ms (by simp [hs]) h k o m ho hm
          rw [show Nat.succ j + k = j + (k + 1) by omega] at this
          refine ⟨this.1, fun i x hx hi => this.2 i x (by simpa using hx) hi⟩

theorem opsOk_spec {ops : List Oper} (h : opsOk ops = true) {j : Nat} {o : Oper} {m : Nat} (ho : ops[j]? = some o) (hm : (masks ops)[j]? = some m) :
    (∀ i, m.testBit i = true → i < j) ∧ ∀ i x, ops[i]? = some x → i < j → m.testBit i = true ∨ apartT ops x o = true := by
  have := apartA_spec ops ops [] 0 (masks ops) rfl h j o m ho hm
  simpa using this

/-! ### the same value -/
theorem Str.eq_true {s t : Str} (h : s.eq t = true) : s = t := by
  obtain ⟨a, b⟩ := s
  obtain ⟨c, d⟩ := t
  have h : and (Nat.beq a c) (Nat.beq b d) = true := h
  rw [Bool.and_eq_true] at h
  rw [Nat.eq_of_beq_eq_true h.1, Nat.eq_of_beq_eq_true h.2]
theorem C.same_eq : ∀ {x y : C}, C.same x y = true → x = y := by
  intro x
  induction x with
  | ifc t c ih =>
    intro y h
    cases y <;> simp only [C.same, Bool.false_eq_true] at h
    rw [Bool.and_eq_true] at h
    rw [Nat.eq_of_beq_eq_true h.1, ih h.2]
  | str s =>
    intro y h
    cases y <;> simp only [C.same, Bool.false_eq_true] at h
    rw [Str.eq_true h]
  | sl b o n c z =>
    intro y h
    cases y <;> simp only [C.same, Bool.false_eq_true] at h
    rename_i b' o' n' c' z'
    rw [Bool.and_eq_true, Bool.and_eq_true, Bool.and_eq_true, Bool.and_eq_true] at h
    obtain ⟨⟨h1, h2⟩, ⟨h3, h4⟩, h5⟩ := h
    rw [Nat.eq_of_beq_eq_true h1, Nat.eq_of_beq_eq_true h2, Nat.eq_of_beq_eq_true h3, Nat.eq_of_beq_eq_true h4]
    cases c <;> cases c' <;> simp only [Bool.false_eq_true] at h5
    · rfl
    · rw [Nat.eq_of_beq_eq_true h5]
  | int k n =>
    intro y h
    cases y <;> simp only [C.same, Bool.false_eq_true] at h
    rw [Bool.and_eq_true, kEq_iff, iEq_eq] at h
    rw [h.1, of_decide_eq_true h.2]
  | ptr b o =>
    intro y h
    cases y <;> simp only [C.same, Bool.false_eq_true] at h
    rw [Bool.and_eq_true] at h
    rw [Nat.eq_of_beq_eq_true h.1, Nat.eq_of_beq_eq_true h.2]
  | bool b =>
    intro y h
    cases y <;> simp only [C.same, Bool.false_eq_true] at h
    rw [eq_of_beq h]
  | map r =>
    intro y h
    cases y <;> simp only [C.same, Bool.false_eq_true] at h
    rw [Nat.eq_of_beq_eq_true h]
  | ife r =>
    intro y h
    cases y <;> simp only [C.same, Bool.false_eq_true] at h
    rw [Nat.eq_of_beq_eq_true h]
  | fn f l => intro y h; cases y <;> simp only [C.same, Bool.false_eq_true] at h
  | _ => intro y h; cases y <;> simp only [C.same, Bool.false_eq_true] at h <;> rfl
theorem sameL_eq : ∀ {l r : List C}, sameL l r = true → l = r
  | [], [], _ => rfl
  | [], _ :: _, h => by simp [sameL] at h
  | _ :: _, [], h => by simp [sameL] at h
  | x :: l, y :: r, h => by
    simp only [sameL] at h
    cases hx : C.same x y with
    | false => rw [hx] at h; cases h
    | true => rw [hx] at h; rw [C.same_eq hx, sameL_eq h]
theorem W.same_eq {x y : W} (h : W.same x y = true) : x = y := by
  cases x <;> cases y <;> simp only [W.same, Bool.false_eq_true] at h
  · rw [C.same_eq h]
  · rw [sameL_eq h]
theorem sameWL_eq : ∀ {l r : List W}, sameWL l r = true → l = r
  | [], [], _ => rfl
  | [], _ :: _, h => by simp [sameWL] at h
  | _ :: _, [], h => by simp [sameWL] at h
  | x :: l, y :: r, h => by
    simp only [sameWL] at h
    cases hx : W.same x y with
    | false => rw [hx] at h; cases h
    | true => rw [hx] at h; rw [W.same_eq hx, sameWL_eq h]
theorem V.same_eq {x y : V} (h : V.same x y = true) : x = y := by
  cases x <;> cases y <;> simp only [V.same, Bool.false_eq_true] at h
  · rw [W.same_eq h]
  · rw [sameWL_eq h]

/-! ### the run in the order of the text, taken apart -/
/-- what operation o (number j, of mask m) does to what the region has reached; its value -/
inductive Kd (E : Env) (call : CallF) (ks : Nat) (ops : List Oper) (o : Oper) (j m base : Nat) (g g' : Rg) (v : V) : Prop where
  | skip (hw : wanted g.a ops o = some false) (hv : v = skipV) (ha : g'.a = putA ks g.a o.dst v) (hs : g'.s = g.s) (hg : g'.gs = g.gs) (hr : g'.rs = g.rs) (he : g'.eff = g.eff)
  | r (hw : wanted g.a ops o = some true) (rd : Bool) (f : Env → A → Look → Option V) (hk : kOf E (opK o.op) = .r rd f) (hf : f E g.a g.s.h.get = some v) (ha : g'.a = putA ks g.a o.dst v) (hs : g'.s = g.s)
      (hg : g'.gs = g.gs) (he : g'.eff = g.eff) (hr : (rd = false ∧ g'.rs = g.rs) ∨ (rd = true ∧ backs E f g.a v m g.gs = true ∧ g'.rs = ⟨j, f, g.a, v⟩ :: g.rs))
  | n (hw : wanted g.a ops o = some true) (f : Env → A → Nat → Option (V × Blk)) (b : Blk) (hk : kOf E (opK o.op) = .n f) (hf : f E g.a (base + j) = some (v, b)) (ha : g'.a = putA ks g.a o.dst v)
      (hs : g'.s = ⟨g.s.h.set (base + j) b, g.s.nx⟩) (hg : g'.gs = g.gs) (hr : g'.rs = g.rs) (he : g'.eff = Nat.lor g.eff (Nat.shiftLeft 1 j))
  | a (hw : wanted g.a ops o = some true) (f : Env → CallF → A → St → VS) (hk : kOf E (opK o.op) = .a f) (hf : f E call g.a g.s = .ok v g'.s) (ha : g'.a = putA ks g.a o.dst v)
      (hm : Nat.land g.eff m = g.eff) (hfo : fores E g'.s m g.rs = true) (hg : g'.gs = (j, g.s) :: g.gs) (hr : g'.rs = g.rs) (he : g'.eff = Nat.lor g.eff (Nat.shiftLeft 1 j))

theorem drawOp_kd {E : Env} {call : CallF} {ks : Nat} {ops : List Oper} {o : Oper} {j m base : Nat} {g g' : Rg} (h : drawOp E call ks ops o j m base g = some g') : ∃ v, Kd E call ks ops o j m base g g' v := by
  obtain ⟨a, s, gs, rs, eff⟩ := g
  unfold drawOp at h
  cases hw : wanted a ops o with
  | none => rw [hw] at h; cases h
  | some b =>
    rw [hw] at h
    cases b with
    | false =>
      simp only [drawSkip, Option.some.injEq] at h
      subst h
      exact ⟨skipV, .skip hw rfl rfl rfl rfl rfl rfl⟩
    | true =>
      simp only [drawK] at h
      cases hk : kOf E (opK o.op) with
      | no => rw [hk] at h; cases h
      | cv _ _ _ => rw [hk] at h; cases h
      | r rd f =>
        rw [hk] at h
        simp only [drawR] at h
        cases hf : f E a s.h.get with
        | none => rw [hf] at h; cases h
        | some v =>
          rw [hf] at h
          cases rd with
          | false =>
            simp only [Option.some.injEq] at h
            subst h
            exact ⟨v, .r hw false f hk hf rfl rfl rfl rfl (.inl ⟨rfl, rfl⟩)⟩
          | true =>
            simp only [] at h
            cases hb : backs E f a v m gs with
            | false => rw [hb] at h; cases h
            | true =>
              rw [hb] at h
              simp only [Option.some.injEq] at h
              subst h
              exact ⟨v, .r hw true f hk hf rfl rfl rfl rfl (.inr ⟨rfl, hb, rfl⟩)⟩
      | n f =>
        rw [hk] at h
        obtain ⟨hh, nx⟩ := s
        simp only [drawN] at h
        cases hf : f E a (Nat.add base j) with
        | none => rw [hf] at h; cases h
        | some vb =>
          obtain ⟨v, b⟩ := vb
          rw [hf] at h
          simp only [Option.some.injEq] at h
          subst h
          exact ⟨v, .n hw f b hk hf rfl rfl rfl rfl rfl⟩
      | a f =>
        rw [hk] at h
        simp only [drawA] at h
        cases hm : Nat.beq (Nat.land eff m) eff with
        | false => rw [hm] at h; cases h
        | true =>
          rw [hm] at h
          simp only [] at h
          cases hf : f E call a s with
          | no => rw [hf] at h; cases h
          | ok v s' =>
            rw [hf] at h
            simp only [] at h
            cases hfo : fores E s' m rs with
            | false => rw [hfo] at h; cases h
            | true =>
              rw [hfo] at h
              simp only [Option.some.injEq] at h
              subst h
              exact ⟨v, .a hw f hk hf rfl (Nat.eq_of_beq_eq_true hm) hfo rfl rfl rfl⟩

theorem drawOps_tr {E : Env} {call : CallF} {ks : Nat} {ops : List Oper} {base : Nat} : ∀ (l : List Oper) (ms : List Nat) (j : Nat) (g g' : Rg), drawOps E call ks ops base l ms j g = some g' →
    ∃ (tr : Nat → Rg) (vl : Nat → V), tr j = g ∧ tr (j + l.length) = g' ∧ ∀ i o, l[i]? = some o → ∃ m, ms[i]? = some m ∧ Kd E call ks ops o (j + i) m base (tr (j + i)) (tr (j + i + 1)) (vl (j + i)) := by
  intro l
  induction l with
  | nil => intro ms j g g' h; cases h; exact ⟨fun _ => g, fun _ => .un, rfl, rfl, fun i o h => by simp at h⟩
  | cons o l ih =>
    intro ms j g g' h
    cases ms with
    | nil => cases h
    | cons m ms =>
      simp only [drawOps] at h
      cases hd : drawOp E call ks ops o j m base g with
      | none => rw [hd] at h; cases h
      | some g1 =>
        rw [hd] at h
        obtain ⟨v, hv⟩ := drawOp_kd hd
        obtain ⟨tr, vl, h1, h2, h3⟩ := ih ms (Nat.succ j) g1 g' h
        refine ⟨fun i => if i ≤ j then g else tr i, fun i => if i ≤ j then v else vl i, by simp, ?_, ?_⟩
        · show (if j + (l.length + 1) ≤ j then g else tr (j + (l.length + 1))) = g'
          rw [if_neg (by omega), ← h2]; congr 1; omega
        · intro i o' hi
          cases i with
          | zero =>
            simp at hi; subst hi
            refine ⟨m, rfl, ?_⟩
            show Kd E call ks ops o (j + 0) m base (if j + 0 ≤ j then g else tr (j + 0)) (if j + 0 + 1 ≤ j then g else tr (j + 0 + 1)) (if j + 0 ≤ j then v else vl (j + 0))
            rw [if_pos (by omega), if_neg (by omega), if_pos (by omega), show j + 0 + 1 = Nat.succ j by omega, h1]
            exact hv
          | succ i =>
            simp at hi
            obtain ⟨m', q1, q2⟩ := h3 i o' hi
            refine ⟨m', by simpa using q1, ?_⟩
            show Kd E call ks ops o' (j + (i + 1)) m' base (if j + (i + 1) ≤ j then g else tr (j + (i + 1))) (if j + (i + 1) + 1 ≤ j then g else tr (j + (i + 1) + 1)) (if j + (i + 1) ≤ j then v else vl (j + (i + 1)))
            rw [if_neg (by omega), if_neg (by omega), if_neg (by omega)]
            rw [show Nat.succ j + i = j + (i + 1) by omega] at q2
            exact q2

end Ev
