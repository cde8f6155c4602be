import Derived.Test.YtjmnhilkgjfllaaGreatDoorEvR
set_option linter.unusedVariables false
set_option linter.unusedSimpArgs false
namespace Ev
open Go

section
variable {P : Program} {w : World} {E : Env} {ρ : Mp} {a : A} {e : Operand → Value} {x y : Operand} {s s' : St}

/-! ### copy -/
theorem copyTo_ok (h : HRel ρ s.h.get s.nx w.heap) {b o m : Nat} {l : List C} {vs : List Value} {c : C} (hr : copyTo s b o m l = .ok c s') (hv : LRel ρ l vs) {p : Place} (hp : ρ b = some p) {ad : Addr}
    (had : m ≠ 0 → ad = ⟨p.c, p.o + o, none⟩) (hm : m = 0 → vs = []) :
    ∃ w', (storeCells ad vs).run P w = .ok () w' ∧ (Post ρ s w.heap ρ s' w'.heap ∧ Same w w') ∧ c = .int .i64 (m : Int) := by
  unfold copyTo at hr
  cases m with
  | zero =>
    cases hr
    rw [hm rfl]
    exact ⟨w, rfl, ⟨Post.refl h, Same.refl w⟩, rfl⟩
  | succ m =>
    simp only [] at hr
    cases hw : writeL s b o l with
    | none => rw [hw] at hr; cases hr
    | some s1 =>
      rw [hw] at hr
      cases hr
      obtain ⟨w', q1, q2⟩ := run_writeL (P := P) h hw hp hv
      exact ⟨w', by rw [had (by omega)]; exact q1, q2, rfl⟩

theorem copy_ok (hE : EnvOk E P) (h : HRel ρ s.h.get s.nx w.heap) (hx : OpRel ρ a e x) (hy : OpRel ρ a e y) {ts : Array Nat} {ty : TypeId} {v : V} (hr : aCopy E a ts x y s = .ok v s') :
    ∃ u w', (Builtin.copy_ ts ty #[e x, e y]).run P w = .ok u w' ∧ (Post ρ s w.heap ρ s' w'.heap ∧ Same w w') ∧ VRel ρ v u := by
  unfold aCopy at hr
  cases h0 : ts[0]? with
  | none => rw [h0] at hr; cases hr
  | some t =>
    rw [h0] at hr
    simp only [] at hr
    cases h1 : opC a x with
    | none => rw [h1] at hr; cases hr
    | some cx =>
      rw [h1] at hr
      simp only [] at hr
      cases h2 : opC a y with
      | none => rw [h2] at hr; cases hr
      | some cy =>
        rw [h2] at hr
        simp only [] at hr
        obtain ⟨c, hc, rfl⟩ := csOk hr
        clear hr
        have hcx := toC_rel hx h1
        have hcy := toC_rel hy h2
        unfold copy at hc
        cases hj : elemTI E t with
        | none => rw [hj] at hc; cases hc
        | some j =>
          rw [hj] at hc
          simp only [] at hc
          obtain ⟨el, f, g1, g2, g3, g4, g5, g6, g7, z, hz⟩ := elemTI_some hE hj
          have base : ∀ (bs : Option Addr) (n cp m : Nat) (yv : Value) (vs : List Value) (w' : World), (Builtin.lenOf yv).run P w = .ok m w → (Builtin.firstCells f.size (Nat.min m n) yv).run P w = .ok vs.toArray w →
              (∀ ad, bs = some ad → (storeCells ad vs).run P w = .ok () w') → (bs = none → w' = w) →
              (Builtin.copy_ ts ty #[.slice bs n cp, yv]).run P w = .ok (.int .i64 (Nat.min m n : Nat)) w' := by
            intro bs n cp m yv vs w' q1 q2 q3 q4
            cases bs with
            | none =>
              have := q4 rfl
              subst this
              simp [Builtin.copy_, h0, run_und g1, run_size g3, q1, q2, goInt]
            | some ad => simp [Builtin.copy_, h0, run_und g1, run_size g3, q1, q2, q3 ad rfl, goInt]
          cases cx <;> simp only [] at hc <;> try (cases hc; done)
          case nils =>
            have ex : e x = .slice none 0 0 := hcx
            rw [ex]
            cases hn : newCells s.h.get j.size cy with
            | none => rw [hn] at hc; cases hc
            | some mn =>
              obtain ⟨m, new⟩ := mn
              rw [hn] at hc
              cases hc
              obtain ⟨hlen, news, n1, n2, n3⟩ := newCells_ok (P := P) h.sees hcy g6 hn
              have h00 : (Builtin.firstCells f.size (Nat.min m 0) (e y)).run P w = .ok ([] : List Value).toArray w := by
                rw [show Nat.min m 0 = 0 from Nat.min_zero m]
                cases cy <;> simp only [newCells] at hn <;> try (cases hn; done)
                case str => obtain ⟨bs, ey, _⟩ := hcy; rw [ey]; simp [Builtin.firstCells]
                case nils => have ey : e y = .slice none 0 0 := hcy; rw [ey]; rfl
                case sl => obtain ⟨p, ad, cp, _, ey, _⟩ := hcy; rw [ey]; simp [Builtin.firstCells, loadCells, loadCellsFrom]
              have := base none 0 0 m (e y) [] w (hlen w) h00 (fun _ h => by cases h) (fun _ => rfl)
              rw [show Nat.min m 0 = 0 from Nat.min_zero m] at this
              exact ⟨_, w, this, ⟨Post.refl h, Same.refl w⟩, rfl⟩
          case sl b o n cap zz =>
            obtain ⟨p, ad, cp, hp, ex, hs⟩ := hcx
            rw [ex]
            have had : ∀ m, Nat.min m n ≠ 0 → ad = ⟨p.c, p.o + o, none⟩ := fun m hm => sl_ad hs (by have h1 := hs.le; have h2 : Nat.min m n ≤ n := Nat.min_le_right m n; omega)
            cases cy <;> simp only [] at hc <;> try (cases hc; done)
            case nils =>
              have ey : e y = .slice none 0 0 := hcy
              cases hc
              have := base (some ad) n cp 0 (e y) [] w (by rw [ey]; rfl) (by rw [ey]; rfl) (fun _ _ => rfl) (fun h => by cases h)
              rw [show Nat.min 0 n = 0 from Nat.zero_min n] at this
              exact ⟨_, w, this, ⟨Post.refl h, Same.refl w⟩, rfl⟩
            case sl b' o' n' cap' zz' =>
              cases hl : readL s.h.get b' o' (Nat.mul (Nat.min n' n) j.size) with
              | none => rw [hl] at hc; cases hc
              | some l =>
                rw [hl] at hc
                simp only [] at hc
                obtain ⟨p', ad', cp', hp', ey, hs'⟩ := hcy
                obtain ⟨vs, q1, q2, _, q3⟩ := readL_rel h.sees hl hp'
                have hvs : Nat.min n' n = 0 → vs = [] := fun h0 => by
                  have : vs.length = 0 := by rw [q2, h0]; exact Nat.zero_mul _
                  simpa using this
                obtain ⟨w', r1, r2, rfl⟩ := copyTo_ok (P := P) (ad := ad) h hc q1 hp (had n') hvs
                have hfo : (Builtin.firstCells f.size (Nat.min n' n) (e y)).run P w = .ok vs.toArray w := by
                  rw [ey]
                  show (loadCells ad' (Nat.min n' n * f.size)).run P w = _
                  rw [g4]
                  have := run_loadCells_list (P := P) w ⟨p'.c, p'.o + o', none⟩ vs (q3 w rfl)
                  rw [q2] at this
                  by_cases hm : Nat.min n' n = 0
                  · rw [hvs hm, hm, Nat.zero_mul]; rfl
                  · rw [sl_ad hs' (by have h1 := hs'.le; have h2 : Nat.min n' n ≤ n' := Nat.min_le_left n' n; omega)]; exact this
                have := base (some ad) n cp n' (e y) vs w' (by rw [ey]; rfl) hfo (fun _ h => by cases h; exact r1) (fun h => by cases h)
                exact ⟨_, w', this, r2, rfl⟩
            case str zs =>
              obtain ⟨bs, ey, rfl⟩ := hcy
              rw [str_len] at hc
              have hk : Nat.min bs.size n ≤ bs.size := Nat.min_le_left _ _
              generalize hkk : Nat.min bs.size n = k at hc hk had
              have hsub : (Str.of bs).sub 0 k = Str.of (bs.extract 0 k) := by
                rw [Str.of_eq, Str.sub_ofL _ _ _ (Nat.zero_le _) (by simpa using hk), Str.of_eq]
                congr 1
                simp [ByteArray.extract, ByteArray.copySlice]
              have hes : (bs.extract 0 k).size = k := by simp; omega
              rw [hsub] at hc
              have hB : bytesC (Str.of (bs.extract 0 k)) k = (bs.extract 0 k).data.toList.map (fun b => C.int .u8 (b.toNat : Int)) := by
                have := bytesC_eq (bs.extract 0 k) k (by omega)
                rw [this, hes]; simp
              rw [hB] at hc
              have hl : LRel ρ ((bs.extract 0 k).data.toList.map (fun b => C.int .u8 (b.toNat : Int))) ((bs.extract 0 k).data.toList.map (fun b => Value.int .u8 (b.toNat : Int))) := by
                generalize (bs.extract 0 k).data.toList = q
                induction q with
                | nil => exact .nil
                | cons b q ih => exact .cons rfl ih
              have hvl : ((bs.extract 0 k).data.toList.map (fun b => Value.int .u8 (b.toNat : Int))).length = k := by
                rw [List.length_map]; exact hes
              obtain ⟨w', r1, r2, rfl⟩ := copyTo_ok (P := P) (ad := ad) h hc hl hp (fun h0 => had bs.size (by rw [hkk]; exact h0)) (fun h0 => List.length_eq_zero_iff.1 (hvl.trans h0))
              have hfo : (Builtin.firstCells f.size (Nat.min bs.size n) (e y)).run P w = .ok ((bs.extract 0 k).data.toList.map (fun b => Value.int .u8 (b.toNat : Int))).toArray w := by
                rw [ey, hkk]
                simp only [Builtin.firstCells, Sem.run_pure]
                congr 1
                apply Array.ext'
                simp
              have := base (some ad) n cp bs.size (e y) _ w' (by rw [ey]; rfl) hfo (fun _ h => by cases h; exact r1) (fun h => by cases h)
              rw [hkk] at this
              exact ⟨_, w', this, r2, rfl⟩


/-! ### maps, iterators -/
theorem Post.setObj (h : HRel ρ s.h.get s.nx w.heap) {b : Nat} {x x' : Blk} {p : Place} (hb : s.h.get b = some x) (hx : ∀ r, x ≠ .row r) (hx' : ∀ r, x' ≠ .row r) (hw : wr x = true) (hw' : wr x' = true) (hp : ρ b = some p)
    {o' : Obj} (hbr : BlkRel ρ p x' o') : Post ρ s w.heap ρ ⟨s.h.set b x', s.nx⟩ (w.heap.setIfInBounds p.c o') := by
  obtain ⟨p0, ob, e1, e2, e3⟩ := h.blk b x hb (wr_alive hw)
  rw [hp] at e1; cases e1
  have hcs : p.c < w.heap.size := (Array.getElem?_eq_some_iff.1 e2).1
  have alone : ∀ b' y q, b' ≠ b → s.h.get b' = some y → alive y = true → ρ b' = some q → q.c ≠ p.c := by
    intro b' y q hne hy ha hq hc
    obtain ⟨r1, _, s1, _⟩ := h.apart b x b' y p q hb hw hy ha hne hp hq hc.symm
    exact hx r1 s1
  have hlook : ∀ c, (s.h.set b x').get c = if c = b then some x' else s.h.get c := fun c => T.get_set _ _ _ _
  refine ⟨fun _ _ => rfl, Nat.le_refl _, ⟨h.dom, ?_, ?_⟩, by simp, ?_, ?_, ?_⟩
  · intro c y hy ha
    simp only [hlook] at hy
    by_cases e : c = b
    · rw [if_pos e] at hy; cases hy; subst e
      exact ⟨p, o', hp, by simp [hcs], hbr⟩
    · rw [if_neg e] at hy
      obtain ⟨q, oq, u1, u2, u3⟩ := h.blk c y hy ha
      exact ⟨q, oq, u1, by rw [Array.getElem?_setIfInBounds_ne (Ne.symm (alone c y q e hy ha u1))]; exact u2, u3⟩
  · intro c y c' y' q q' hy hwy hy' ha hne hq hq' hc
    simp only [hlook] at hy hy'
    by_cases e : c = b
    · subst e
      rw [hp] at hq; cases hq
      rw [if_neg hne] at hy'
      exact absurd hc.symm (alone c' y' q' hne hy' ha hq')
    · rw [if_neg e] at hy
      by_cases e' : c' = b
      · subst e'
        rw [hp] at hq'; cases hq'
        exact absurd hc (alone c y q e hy (wr_alive hwy) hq)
      · rw [if_neg e'] at hy'
        exact h.apart c y c' y' q q' hy hwy hy' ha hne hq hq' hc
  · intro c hc hn
    rw [Array.getElem?_setIfInBounds_ne (hn b x p hb hw hp)]
  · intro c y q hy hwy hq _
    simp only [hlook] at hy
    by_cases e : c = b
    · subst e; exact ⟨c, x, q, hb, hw, hq, rfl⟩
    · rw [if_neg e] at hy; exact ⟨c, y, q, hy, hwy, hq, rfl⟩
  · intro c y q hy hwy hq _
    simp only [hlook] at hy
    by_cases e : c = b
    · subst e; exact ⟨c, x, q, hb, wr_alive hw, hq, rfl⟩
    · rw [if_neg e] at hy; exact ⟨c, y, q, hy, hwy, hq, rfl⟩

theorem run_setObj {r : Nat} {o o' : Obj} (h : w.heap[r]? = some o) (hn : ∀ c el fz, o ≠ .cells c el fz) : (setObj r o').run P w = .ok () { w with heap := w.heap.setIfInBounds r o' } := by
  show Sem.run P (Sem.setObj r o' (.pure ())) w = _
  cases o <;> first | exact absurd rfl (hn _ _ _) | simp only [Sem.run, h]

theorem next_ok (h : HRel ρ s.h.get s.nx w.heap) (hx : OpRel ρ a e x) {isS : Bool} {ty : TypeId} {v : V} (hr : aNext a x isS s = .ok v s') :
    ∃ u w', (Instr.next (e x) isS ty).run P w = .ok u w' ∧ (Post ρ s w.heap ρ s' w'.heap ∧ Same w w') ∧ VRel ρ v u := by
  unfold aNext at hr
  cases hc : opC a x with
  | none => rw [hc] at hr; cases hr
  | some c =>
    rw [hc] at hr
    simp only [] at hr
    have hcx := toC_rel hx hc
    unfold next at hr
    cases c <;> (try simp only [] at hr) <;> try (cases hr; done)
    rename_i r o
    cases o <;> (try simp only [] at hr) <;> try (cases hr; done)
    cases isS <;> (try simp only [] at hr) <;> try (cases hr; done)
    cases hl : s.h.get r with
    | none => rw [hl] at hr; cases hr
    | some b =>
      rw [hl] at hr
      cases b <;> simp only [] at hr <;> try (cases hr; done)
      rename_i z i
      obtain ⟨p, hp, ex⟩ := hcx
      obtain ⟨p', ob, q1, q2, bs, rfl, rfl, q3⟩ := h.blk r _ hl rfl
      rw [hp] at q1; cases q1
      have ex' : e x = .pointer (some ⟨p.c, 0, none⟩) := by rw [ex, q3]; rfl
      have hgo : (getObj p.c).run P w = .ok (.stringIter bs i) w := by
        show Sem.run P (Sem.getObj p.c Sem.pure) w = _
        simp only [Sem.run, q2]
      unfold nextI at hr
      cases hb : Nat.ble (Nat.succ i) (Str.of bs).len with
      | true =>
        rw [hb] at hr
        simp only [] at hr
        have hi : i < bs.size := Nat.le_of_ble_eq_true hb
        rw [dec_eq bs i hi] at hr
        obtain ⟨hh, nx⟩ := s
        simp only [] at hr
        cases hr
        refine ⟨.tuple #[.bool true, goInt i, .int .i32 (Utf8.decode bs i).1], { w with heap := w.heap.setIfInBounds p.c (.stringIter bs (i + (Utf8.decode bs i).2)) }, ?_, ?_, ?_⟩
        · unfold Instr.next
          simp only [ex', Sem.run_bind, hgo, Result.andThen_ok, if_pos hi, run_setObj q2 (by intro _ _ _ h; cases h), Sem.run_pure]
        · exact ⟨Post.setObj h hl (fun _ h => by cases h) (fun _ h => by cases h) rfl rfl hp ⟨bs, rfl, rfl, q3⟩, rfl, rfl⟩
        · exact ⟨_, rfl, .cons rfl (.cons rfl (.cons rfl .nil))⟩
      | false =>
        rw [hb] at hr
        cases hr
        have hi : ¬ i < bs.size := fun hi => by rw [Nat.ble_eq_true_of_le (show Nat.succ i ≤ (Str.of bs).len from hi)] at hb; cases hb
        refine ⟨.tuple #[.bool false], w, ?_, ⟨Post.refl h, Same.refl w⟩, ⟨_, rfl, .cons rfl .nil⟩⟩
        unfold Instr.next
        simp only [ex', Sem.run_bind, hgo, Result.andThen_ok, if_neg hi, Sem.run_pure]

theorem put_ok {d : TypeDesc} {k : C} {u x : Value} {v : W} (hd : ((∃ j, d = .int j) ∧ ∃ j n, k = .int j n) ∨ (d = .string ∧ ∃ s, k = .str s)) (hk : CRel ρ k u) (hv : WRel ρ v x) :
    ∀ (es es' : List (C × W)) (arr : List MapEntry) (i : Nat), All2 (EntRel ρ) es arr → putK k v es = some es' →
      (Instr.findNow d u arr i = some none ∧ ∀ c, All2 (EntRel ρ) es' (arr ++ [{ key := u, val := x, born := c }])) ∨
      (∃ j en, Instr.findNow d u arr i = some (some (i + j, en.val)) ∧ arr[j]? = some en ∧ en.key = u ∧ All2 (EntRel ρ) es' (arr.modify j fun e => { e with key := u, val := x })) := by
  intro es
  induction es with
  | nil =>
    intro es' arr i ha h
    cases ha
    left
    refine ⟨rfl, fun c => ?_⟩
    cases k <;> simp only [putK] at h <;> try (cases h; done)
    all_goals (cases h; exact .cons ⟨hk, hv⟩ .nil)
  | cons p es ih =>
    intro es' arr i ha h
    obtain ⟨c, v0⟩ := p
    cases ha with
    | cons h1 h2 =>
      rename_i en arr
      obtain ⟨hc, hv0⟩ := h1
      obtain ⟨s1, s2⟩ := same_key hd hk hc
      have go : ∀ (b : Bool), Instr.sameNow d u en.key = some b → (b = true → en.key = u) → (b = true → es' = (k, v) :: es ∨ es' = (c, v) :: es ∧ False) → (b = false → ∃ l, putK k v es = some l ∧ es' = (c, v0) :: l) →
          (Instr.findNow d u (en :: arr) i = some none ∧ ∀ c, All2 (EntRel ρ) es' (en :: arr ++ [{ key := u, val := x, born := c }])) ∨
          (∃ j en', Instr.findNow d u (en :: arr) i = some (some (i + j, en'.val)) ∧ (en :: arr)[j]? = some en' ∧ en'.key = u ∧ All2 (EntRel ρ) es' ((en :: arr).modify j fun e => { e with key := u, val := x })) := by
        intro b hb hb1 ht hf
        cases b with
        | true =>
          right
          refine ⟨0, en, by simp only [Instr.findNow, hb, Nat.add_zero], rfl, hb1 rfl, ?_⟩
          rcases ht rfl with rfl | ⟨_, hF⟩
          · simp only [List.modify_zero_cons]; exact .cons ⟨hk, hv⟩ h2
          · exact hF.elim
        | false =>
          obtain ⟨l, g1, rfl⟩ := hf rfl
          rcases ih l arr (i + 1) h2 g1 with ⟨q1, q2⟩ | ⟨j, en', q1, q2, q3, q4⟩
          · left
            refine ⟨by simp only [Instr.findNow, hb, q1], fun cc => .cons ⟨hc, hv0⟩ (q2 cc)⟩
          · right
            refine ⟨j + 1, en', by simp only [Instr.findNow, hb, q1]; congr 3; omega, by simpa using q2, q3, ?_⟩
            simp only [List.modify_succ_cons]
            exact .cons ⟨hc, hv0⟩ q4
      simp only [putK] at h
      cases k <;> cases c <;> simp only [] at h <;> try (cases h; done)
      case int.int j aa j' bb =>
        cases hj : kEq j j' with
        | false => rw [hj] at h; cases h
        | true =>
          rw [hj] at h
          simp only [] at h
          obtain ⟨q1, q2⟩ := s1 j aa j' bb rfl rfl hj
          refine go _ q1 q2 (fun hi => ?_) (fun hi => ?_)
          · rw [hi] at h; cases h; exact .inl rfl
          · rw [hi] at h; simp only [] at h
            cases hp : putK (.int j aa) v es with
            | none => rw [hp] at h; cases h
            | some l => rw [hp] at h; cases h; exact ⟨l, rfl, rfl⟩
      case str.str aa bb =>
        obtain ⟨q1, q2⟩ := s2 aa bb rfl rfl
        refine go _ q1 q2 (fun hi => ?_) (fun hi => ?_)
        · rw [hi] at h; cases h; exact .inl rfl
        · rw [hi] at h; simp only [] at h
          cases hp : putK (.str aa) v es with
          | none => rw [hp] at h; cases h
          | some l => rw [hp] at h; cases h; exact ⟨l, rfl, rfl⟩


theorem keyStays {u : Value} {k : C} (hd : (∃ j n, k = .int j n) ∨ (∃ s, k = .str s)) (hk : CRel ρ k u) : (Instr.keyThatStays u u).run P w = .ok u w := by
  have : Instr.sameBits 10000 u u = true := by
    rcases hd with ⟨j, n, rfl⟩ | ⟨s, rfl⟩
    · have e : u = .int j n := hk
      subst e; simp [Instr.sameBits]
    · obtain ⟨bs, rfl, _⟩ := hk
      simp only [Instr.sameBits, MapKept.bytes_beq]
  unfold Instr.keyThatStays
  rw [if_pos this]; rfl

theorem map_ok (hE : EnvOk E P) (h : HRel ρ s.h.get s.nx w.heap) {m k x : Operand} (hm : OpRel ρ a e m) (hk : OpRel ρ a e k) (hx : OpRel ρ a e x) {t : TypeId} {v : V} (hr : aMap E t a m k x s = .ok v s') :
    v = .un ∧ ∃ w', (Instr.mapUpdate t (e m) (e k) (e x)).run P w = .ok () w' ∧ Post ρ s w.heap ρ s' w'.heap ∧ Same w w' := by
  unfold aMap at hr
  cases h1 : opC a m with
  | none => rw [h1] at hr; cases hr
  | some cm =>
    rw [h1] at hr
    simp only [] at hr
    cases h2 : opC a k with
    | none => rw [h2] at hr; cases hr
    | some ck =>
      rw [h2] at hr
      simp only [] at hr
      cases h3 : opW a x with
      | none => rw [h3] at hr; cases hr
      | some wx =>
        rw [h3] at hr
        simp only [] at hr
        have hcm := toC_rel hm h1
        have hck := toC_rel hk h2
        have hwx := toW_rel hx h3
        cases hu : mapUpdate E t cm ck wx s with
        | none => rw [hu] at hr; cases hr
        | some s1 =>
          rw [hu] at hr
          cases hr
          refine ⟨rfl, ?_⟩
          unfold mapUpdate at hu
          cases hki : keyIs E t ck with
          | false => rw [hki] at hu; cases hu
          | true =>
            rw [hki] at hu
            unfold keyIs at hki
            cases ht : undT E t with
            | none => rw [ht] at hki; cases hki
            | some ty =>
              rw [ht] at hki
              have ht' := (undT_some hE ht).1
              cases ty <;> simp only [] at hki <;> try (cases hki; done)
              rename_i kt el
              obtain ⟨d, hd, hdk⟩ := keyOk_some hE hki
              cases cm <;> (try simp only [] at hu) <;> try (cases hu; done)
              rename_i r
              cases hl : s.h.get r with
              | none => rw [hl] at hu; cases hu
              | some b =>
                rw [hl] at hu
                cases b <;> (try simp only [] at hu) <;> try (cases hu; done)
                rename_i es
                cases hp : putK ck wx es with
                | none => rw [hp] at hu; cases hu
                | some es' =>
                  rw [hp] at hu
                  obtain ⟨p, hpp, ex⟩ := hcm
                  obtain ⟨p', ob, q1, q2, arr, clk, rfl, q3⟩ := h.blk r _ hl rfl
                  rw [hpp] at q1; cases q1
                  have hdp : (∃ j, d = .int j) ∨ d = .string := by rcases hdk with ⟨h, _⟩ | ⟨h, _⟩; exact .inl h; exact .inr h
                  have hkk : (∃ j n, ck = .int j n) ∨ (∃ s, ck = .str s) := by rcases hdk with ⟨_, h⟩ | ⟨_, h⟩; exact .inl h; exact .inr h
                  have hs1 : s' = ⟨s.h.set r (.map es'), s.nx⟩ := by cases s; cases hu; rfl
                  subst hs1
                  have post : ∀ o', BlkRel ρ p (.map es') o' → Post ρ s w.heap ρ ⟨s.h.set r (.map es'), s.nx⟩ (w.heap.setIfInBounds p.c o') := fun o' ho =>
                    Post.setObj h hl (fun _ h => by cases h) (fun _ h => by cases h) rfl rfl hpp ho
                  rcases put_ok hdk hck hwx es es' arr.toList 0 q3 hp with ⟨f1, f2⟩ | ⟨j, en, f1, f2, f3, f4⟩
                  · refine ⟨{ w with heap := w.heap.setIfInBounds p.c (.map (arr.push { key := e k, val := e x, born := clk }) (clk + 1)) }, ?_, post _ ⟨_, _, rfl, by simpa using f2 clk⟩, rfl, rfl⟩
                    unfold Instr.mapUpdate Instr.findKey
                    simp only [Sem.run_bind, run_und ht', run_und hd, Result.andThen_ok, ex, MapKept.run_getObj_map q2, checkKey_ok hd hdp, f1, Sem.run_pure, run_setObj q2 (by intro _ _ _ h; cases h)]
                  · refine ⟨{ w with heap := w.heap.setIfInBounds p.c (.map (arr.modify j fun en => { en with key := e k, val := e x }) clk) }, ?_, post _ ⟨_, _, rfl, by rw [Array.toList_modify]; exact f4⟩, rfl, rfl⟩
                    have f2' : arr[j]? = some en := by simpa using f2
                    unfold Instr.mapUpdate Instr.findKey
                    simp only [Sem.run_bind, run_und ht', run_und hd, Result.andThen_ok, ex, MapKept.run_getObj_map q2, checkKey_ok hd hdp, f1, Sem.run_pure, Nat.zero_add, f2', Option.map_some, Option.getD_some, f3, keyStays hkk hck, run_setObj q2 (by intro _ _ _ h; cases h)]

end
end Ev
