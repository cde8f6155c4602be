import Derived.Test.YtjmnhilkgjfllaaGreatDoorEvH
import Derived.Laws.StructEq
set_option linter.unusedVariables false
set_option linter.unusedSimpArgs false
namespace Ev
open Go

section
variable {P : Program} {w : World} {E : Env} {ρ : Mp} {a : A} {e : Operand → Value} {x y : Operand}

theorem eqPlain_ok {t : TypeId} {d : TypeDesc} (ht : P.underlying t = some d) {c c' : C} {u v : Value} (hc : CRel ρ c u) (hd : CRel ρ c' v) {b : Bool} (h : eqPlain d c c' = some b) (n : Nat) :
    (Op.equalIn (n + 1) t u v).run P w = .ok b w := by
  cases d <;> simp only [eqPlain] at h <;> try (cases h; done)
  case bool =>
    cases c <;> simp only [] at h <;> try (cases h; done)
    cases c' <;> simp only [] at h <;> try (cases h; done)
    cases h; cases hc; cases hd
    simp [Op.equalIn, run_und ht]
  case int k0 =>
    cases c <;> simp only [] at h <;> try (cases h; done)
    cases c' <;> simp only [] at h <;> try (cases h; done)
    rename_i k m k' m'
    cases hk : kEq k k' with
    | false => rw [hk] at h; cases h
    | true =>
      rw [hk] at h; cases h; cases hc; cases hd
      have := (kEq_iff k k').1 hk
      subst this
      simp [Op.equalIn, run_und ht, iEq_eq]
      rw [Bool.eq_iff_iff]; simp
  case string =>
    cases c <;> simp only [] at h <;> try (cases h; done)
    cases c' <;> simp only [] at h <;> try (cases h; done)
    obtain ⟨s, rfl, rfl⟩ := hc
    obtain ⟨r, rfl, rfl⟩ := hd
    simp only [Option.some.injEq] at h
    subst h
    rw [str_eq]
    exact run_equalIn_string w n t s r ht

theorem part_one {t : TypeId} {d : TypeDesc} (ht : P.underlying t = some d) (hp : isAggT d = false) (cs : Array Value) (o : Nat) (v : Value) (hv : cs[o]? = some v) : (part t cs o).run P w = .ok v w := by
  unfold part
  simp [run_agg ht, hp, hv]

theorem plainD_agg {d : TypeDesc} (h : plainD d = true) : isAggT d = false := by cases d <;> first | rfl | (simp [plainD] at h)

theorem plainFields_cons {f : Field} {fs : List Field} {o : Nat} {ds : List TypeDesc} (h : plainFields E (f :: fs) o = some ds) :
    ∃ d ds', ds = d :: ds' ∧ undT E f.type = some d ∧ plainD d = true ∧ f.offset = o ∧ f.name ≠ "_" ∧ plainFields E fs (o + 1) = some ds' := by
  simp only [plainFields] at h
  cases hu : undT E f.type with
  | none => rw [hu] at h; cases h
  | some d =>
    rw [hu] at h
    simp only [] at h
    cases hb : and (and (plainD d) (Nat.beq f.offset o)) (f.name != "_") with
    | false => rw [hb] at h; cases h
    | true =>
      rw [hb] at h
      simp only [] at h
      simp only [Bool.and_eq_true, Nat.beq_eq, bne_iff_ne] at hb
      obtain ⟨⟨h1, h2⟩, h3⟩ := hb
      cases hr : plainFields E fs (Nat.succ o) with
      | none => rw [hr] at h; cases h
      | some ds' =>
        rw [hr] at h
        cases h
        exact ⟨d, ds', rfl, rfl, h1, h2, h3, by first | exact hr | rfl⟩

theorem eqDs_ok (hE : EnvOk E P) (k : Nat) (xs ys : Array Value) : ∀ (fs : List Field) (ds : List TypeDesc) (o : Nat) (l r : List C) (b : Bool), plainFields E fs o = some ds → eqDs ds l r = some b →
    LRel ρ l (xs.toList.drop o) → LRel ρ r (ys.toList.drop o) → (Op.eqFields (k + 1) xs ys fs).run P w = .ok b w := by
  intro fs
  induction fs with
  | nil =>
    intro ds o l r b h1 h2 _ _
    simp only [plainFields, Option.some.injEq] at h1
    subst h1
    cases l <;> cases r <;> simp [eqDs] at h2
    subst h2; rfl
  | cons f fs ih =>
    intro ds o l r b h1 h2 hl hr
    obtain ⟨d, ds', rfl, hu, hpl, rfl, hn, hrest⟩ := plainFields_cons h1
    have ht := (undT_some hE hu).1
    cases l with
    | nil => simp [eqDs] at h2
    | cons c l =>
      cases r with
      | nil => simp [eqDs] at h2
      | cons c' r =>
        have hx : ∃ u us, xs.toList.drop f.offset = u :: us ∧ CRel ρ c u ∧ LRel ρ l us := by
          generalize xs.toList.drop f.offset = q at hl; cases hl; exact ⟨_, _, rfl, ‹_›, ‹_›⟩
        have hy : ∃ u us, ys.toList.drop f.offset = u :: us ∧ CRel ρ c' u ∧ LRel ρ r us := by
          generalize ys.toList.drop f.offset = q at hr; cases hr; exact ⟨_, _, rfl, ‹_›, ‹_›⟩
        obtain ⟨u, us, hx1, hx2, hx3⟩ := hx
        obtain ⟨v, vs, hy1, hy2, hy3⟩ := hy
        have gx : xs[f.offset]? = some u := by
          have := congrArg (fun q => q[0]?) hx1
          simp only [List.getElem?_drop] at this; simpa using this
        have gy : ys[f.offset]? = some v := by
          have := congrArg (fun q => q[0]?) hy1
          simp only [List.getElem?_drop] at this; simpa using this
        have dx : xs.toList.drop (f.offset + 1) = us := by rw [← List.drop_drop, hx1]; rfl
        have dy : ys.toList.drop (f.offset + 1) = vs := by rw [← List.drop_drop, hy1]; rfl
        simp only [eqDs] at h2
        unfold Op.eqFields
        rw [if_pos hn]
        simp only [Sem.run_bind, part_one ht (plainD_agg hpl) _ _ _ gx, part_one ht (plainD_agg hpl) _ _ _ gy, Result.andThen_ok]
        cases he : eqPlain d c c' with
        | none => rw [he] at h2; cases h2
        | some b1 =>
          rw [he] at h2
          rw [eqPlain_ok ht hx2 hy2 he k]
          cases b1 with
          | false => simp only [Option.some.injEq] at h2; subst h2; rfl
          | true =>
            simp only [] at h2
            simp only [Result.andThen_ok, Bool.not_true, Bool.false_eq_true, if_false]
            exact ih ds' (f.offset + 1) l r b hrest h2 (by rw [dx]; exact hx3) (by rw [dy]; exact hy3)

theorem guard_plain {t : TypeId} {d : TypeDesc} (ht : P.underlying t = some d) (hp : plainD d = true) (n : Nat) : P.eqGuardType (n + 1) t = false := by
  cases d <;> simp [plainD] at hp <;> simp [Program.eqGuardType, ht]

theorem eqSt_ok (hE : EnvOk E P) {t : TypeId} {op : BinOp} {ox oy : Operand} {l r : List C} {xs ys : Array Value} (hl : LRel ρ l xs.toList) (hr : LRel ρ r ys.toList) {v : V}
    (h : eqOp op (eqSt E t l r) = some v) : ∃ u, (do eqGuard op t ox oy (.agg xs) (.agg ys); Go.binOp op t (.agg xs) (.agg ys) : Sem Value).run P w = .ok u w ∧ VRel ρ v u := by
  cases hq : eqSt E t l r with
  | none => rw [hq] at h; cases h
  | some b =>
    rw [hq] at h
    unfold eqSt at hq
    cases hs : plainStruct E t with
    | none => rw [hs] at hq; cases hq
    | some ds =>
      rw [hs] at hq
      simp only [] at hq
      unfold plainStruct at hs
      cases hi : E.tab.get t with
      | none => rw [hi] at hs; cases hs
      | some i =>
        rw [hi] at hs
        simp only [] at hs
        obtain ⟨f, _, _, _, f4, f5, _⟩ := hE.tab t i hi
        cases hu : i.und <;> rw [hu] at hs <;> try (cases hs; done)
        rename_i fs
        rw [hu] at f4
        simp only [] at hs
        cases hh : i.held with
        | true => rw [hh] at hs; cases hs
        | false =>
          rw [hh] at hs
          simp only [] at hs
          have hfo : P.fieldsOf t = fs := by simp [Program.fieldsOf, f4]
          have hgt : P.eqGuardType P.depth t = false := by
            show P.eqGuardType (2 * (P.types.size + Made.depth) + 1 + 1) t = false
            unfold Program.eqGuardType
            rw [f4]
            simp only []
            rw [← Array.any_toList]
            rw [List.any_eq_false]
            intro g hg
            have : ∀ (l : List Field) (o : Nat) ds, plainFields E l o = some ds → ∀ g ∈ l, ∃ d, undT E g.type = some d ∧ plainD d = true := by
              intro l
              induction l with
              | nil => intro o ds _ g hg; simp at hg
              | cons f l ih =>
                intro o ds h g hg
                obtain ⟨d, ds', _, h1, h2, _, _, h3⟩ := plainFields_cons h
                rcases List.mem_cons.1 hg with rfl | hg
                · exact ⟨d, h1, h2⟩
                · exact ih _ _ h3 g hg
            obtain ⟨d, h1, h2⟩ := this _ _ _ hs g hg
            rw [guard_plain (undT_some hE h1).1 h2]; simp
          have heq : (Op.equalIn 10000 t (.agg xs) (.agg ys)).run P w = .ok b w := by
            show (Op.equalIn (9999 + 1) t (.agg xs) (.agg ys)).run P w = _
            rw [run_equalIn_struct w 9999 t xs ys (by rw [hfo]; exact f4) (by rw [← f5]; exact hh), hfo]
            exact eqDs_ok hE 9998 xs ys fs.toList ds 0 l r b hs hq (by simpa using hl) (by simpa using hr)
          cases op <;> simp only [eqOp] at h <;> try (cases h; done)
          · cases h
            refine ⟨.bool b, ?_, rfl⟩
            simp only [Sem.run_bind, run_eqGuard_agg w _ _ _ _ _ _ hgt, Result.andThen_ok, run_eql_struct, heq]
          · cases h
            refine ⟨.bool (!b), ?_, rfl⟩
            simp only [Sem.run_bind, run_eqGuard_agg w _ _ _ _ _ _ hgt, Result.andThen_ok, run_neq_struct, heq]

/-- a comparison whose operands are neither numbers nor texts -/
theorem eq_run {t : TypeId} {op : BinOp} {ox oy : Operand} {u v : Value} {b : Bool} {x : V} (h : eqOp op (some b) = some x)
    (hg : (eqGuard op t ox oy u v).run P w = .ok () w)
    (h1 : Go.binOp .eql t u v = (do pure (.bool (← Op.equal t u v)))) (h2 : Go.binOp .neq t u v = (do pure (.bool (!(← Op.equal t u v)))))
    (he' : ∀ n, (Op.equalIn (n + 1 + 1) t u v).run P w = .ok b w) :
    ∃ r, (do eqGuard op t ox oy u v; Go.binOp op t u v : Sem Value).run P w = .ok r w ∧ VRel ρ x r := by
  have he : (Op.equal t u v).run P w = .ok b w := he' 9998
  cases op <;> simp only [eqOp] at h <;> try (cases h; done)
  · cases h
    exact ⟨.bool b, by simp only [Sem.run_bind, hg, Result.andThen_ok, h1, he]; rfl, rfl⟩
  · cases h
    exact ⟨.bool (!b), by simp only [Sem.run_bind, hg, Result.andThen_ok, h2, he]; rfl, rfl⟩

theorem eqIf_ok (hE : EnvOk E P) {t : TypeId} {ms : Array (String × TypeId)} (ht : P.underlying t = some (.interface ms)) {op : BinOp} {ox oy : Operand} {c c' : C} {u v : Value} (hc : CRel ρ c u) (hd : CRel ρ c' v)
    {b : Bool} (h : eqIf E ox oy c c' = some b) {x : V} (hx : eqOp op (some b) = some x)
    (fx : isNilConst ox = true → ∃ k, ox = .const k) (fy : isNilConst oy = true → ∃ k, oy = .const k) :
    ∃ r, (do eqGuard op t ox oy u v; Go.binOp op t u v : Sem Value).run P w = .ok r w ∧ VRel ρ x r := by
  cases c <;> simp only [eqIf] at h <;> try (cases h; done)
  case nili =>
    cases hc
    cases c' <;> simp only [] at h <;> try (cases h; done)
    case nili =>
      cases hd
      cases hn : or (isNilConst ox) (isNilConst oy) with
      | false => rw [hn] at h; cases h
      | true =>
        rw [hn] at h; cases h
        refine eq_run hx ?_ rfl rfl ?_
        · unfold eqGuard
          have hn' : isNilConst ox = true ∨ isNilConst oy = true := by simpa using hn
          rcases hn' with g | g
          · obtain ⟨k, rfl⟩ := fx g
            cases op <;> rfl
          · obtain ⟨k, rfl⟩ := fy g
            cases op <;> simp
        · intro n; rw [Op.equalIn]; simp [run_und ht]
    case ifc t' c' =>
      obtain ⟨v', rfl, _⟩ := hd
      cases h
      refine eq_run hx (by unfold eqGuard; cases op <;> simp) rfl rfl ?_
      intro n; rw [Op.equalIn]; simp [run_und ht]
  case ifc t1 c1 =>
    obtain ⟨u', rfl, hu'⟩ := hc
    cases c' <;> simp only [] at h <;> try (cases h; done)
    case nili =>
      cases hd
      cases h
      refine eq_run hx (by unfold eqGuard; cases op <;> simp) rfl rfl ?_
      intro n; rw [Op.equalIn]; simp [run_und ht]
    case ifc t2 c2 =>
      obtain ⟨v', rfl, hv'⟩ := hd
      cases hb : Nat.beq t1 t2 with
      | false =>
        rw [hb] at h; cases h
        have hne : t1 ≠ t2 := Nat.ne_of_beq_eq_false hb
        refine eq_run hx (by unfold eqGuard; cases op <;> simp) rfl rfl ?_
        intro n; rw [Op.equalIn]; simp [run_und ht, hne]
      | true =>
        rw [hb] at h
        simp only [] at h
        have := Nat.eq_of_beq_eq_true hb
        subst this
        cases hu : undT E t1 with
        | none => rw [hu] at h; cases h
        | some d =>
          rw [hu] at h
          simp only [] at h
          obtain ⟨k1, i, k2, k3⟩ := undT_some hE hu
          obtain ⟨f, f1, _, _, _, _, f6, _⟩ := hE.tab t1 i k2
          have hcmp : f.comparable = true := f6 (by rw [k3]; cases d <;> simp only [eqPlain] at h <;> first | rfl | (cases h; done))
          refine eq_run hx (by unfold eqGuard; cases op <;> simp) rfl rfl ?_
          intro n
          have := eqPlain_ok (w := w) k1 hu' hv' h n
          rw [Op.equalIn]
          simp only [Sem.run_bind, run_und ht, Result.andThen_ok, ne_eq, not_true_eq_false, if_false, run_info f1, hcmp, Bool.not_true, Bool.false_eq_true, this]

theorem eqAt_ok (hE : EnvOk E P) {t : TypeId} {op : BinOp} {ox oy : Operand} {c c' : C} {u v : Value} (hc : CRel ρ c u) (hd : CRel ρ c' v)
    {x : V} (h : eqOp op (eqAt E t ox oy c c') = some x) (fx : isNilConst ox = true → ∃ k, ox = .const k) (fy : isNilConst oy = true → ∃ k, oy = .const k) :
    ∃ r, (do eqGuard op t ox oy u v; Go.binOp op t u v : Sem Value).run P w = .ok r w ∧ VRel ρ x r := by
  cases hq : eqAt E t ox oy c c' with
  | none => rw [hq] at h; cases h
  | some b =>
    rw [hq] at h
    unfold eqAt at hq
    cases hu : undT E t with
    | none => rw [hu] at hq; cases hq
    | some d =>
      have ht := (undT_some hE hu).1
      rw [hu] at hq
      cases d <;> simp only [] at hq <;> try (cases hq; done)
      case bool =>
        cases c <;> simp only [eqPlain] at hq <;> try (cases hq; done)
        cases c' <;> simp only [] at hq <;> try (cases hq; done)
        cases hc; cases hd; cases hq
        exact eq_run h (by unfold eqGuard; cases op <;> simp) rfl rfl (by intro n; rw [Op.equalIn]; simp [run_und ht])
      case pointer =>
        cases c <;> simp only [eqPtr] at hq <;> try (cases hq; done)
        all_goals cases c' <;> simp only [] at hq <;> try (cases hq; done)
        all_goals first
          | (cases hc; obtain ⟨q, _, rfl⟩ := hd; cases hq; exact eq_run h (by unfold eqGuard; cases op <;> simp) rfl rfl (by intro n; rw [Op.equalIn]; simp [run_und ht]))
          | (cases hd; obtain ⟨q, _, rfl⟩ := hc; cases hq; exact eq_run h (by unfold eqGuard; cases op <;> simp) rfl rfl (by intro n; rw [Op.equalIn]; simp [run_und ht]))
          | (cases hc; cases hd; cases hq; exact eq_run h (by unfold eqGuard; cases op <;> simp) rfl rfl (by intro n; rw [Op.equalIn]; simp [run_und ht]))
      case slice =>
        cases c <;> simp only [eqSl] at hq <;> try (cases hq; done)
        all_goals cases c' <;> simp only [] at hq <;> try (cases hq; done)
        all_goals first
          | (cases hc; obtain ⟨_, _, _, _, rfl, _⟩ := hd; cases hq; exact eq_run h (by unfold eqGuard; cases op <;> simp) rfl rfl (by intro n; rw [Op.equalIn]; simp [run_und ht]))
          | (cases hd; obtain ⟨_, _, _, _, rfl, _⟩ := hc; cases hq; exact eq_run h (by unfold eqGuard; cases op <;> simp) rfl rfl (by intro n; rw [Op.equalIn]; simp [run_und ht]))
          | (cases hc; cases hd; cases hq; exact eq_run h (by unfold eqGuard; cases op <;> simp) rfl rfl (by intro n; rw [Op.equalIn]; simp [run_und ht]))
      case map =>
        cases c <;> simp only [eqMap] at hq <;> try (cases hq; done)
        all_goals cases c' <;> simp only [] at hq <;> try (cases hq; done)
        all_goals first
          | (cases hc; obtain ⟨_, _, rfl⟩ := hd; cases hq; exact eq_run h (by unfold eqGuard; cases op <;> simp) rfl rfl (by intro n; rw [Op.equalIn]; simp [run_und ht]))
          | (cases hd; obtain ⟨_, _, rfl⟩ := hc; cases hq; exact eq_run h (by unfold eqGuard; cases op <;> simp) rfl rfl (by intro n; rw [Op.equalIn]; simp [run_und ht]))
          | (cases hc; cases hd; cases hq; exact eq_run h (by unfold eqGuard; cases op <;> simp) rfl rfl (by intro n; rw [Op.equalIn]; simp [run_und ht]))
      case func =>
        cases c <;> simp only [eqFn] at hq <;> try (cases hq; done)
        all_goals cases c' <;> simp only [] at hq <;> try (cases hq; done)
        all_goals first
          | (cases hc; obtain ⟨_, rfl, _⟩ := hd; cases hq; exact eq_run h (by unfold eqGuard; cases op <;> simp) rfl rfl (by intro n; rw [Op.equalIn]; simp [run_und ht]))
          | (cases hd; obtain ⟨_, rfl, _⟩ := hc; cases hq; exact eq_run h (by unfold eqGuard; cases op <;> simp) rfl rfl (by intro n; rw [Op.equalIn]; simp [run_und ht]))
          | (cases hc; cases hd; cases hq; exact eq_run h (by unfold eqGuard; cases op <;> simp) rfl rfl (by intro n; rw [Op.equalIn]; simp [run_und ht]))
      case interface ms => exact eqIf_ok hE ht hc hd hq h fx fy

theorem nilConst (ox : Operand) (h : isNilConst ox = true) : ∃ k, ox = .const k := by
  cases ox with
  | const k => exact ⟨k, rfl⟩
  | _ => simp [isNilConst] at h

theorem bin_ok (hE : EnvOk E P) (hx : OpRel ρ a e x) (hy : OpRel ρ a e y) {op : BinOp} {t : TypeId} {v : V} (hr : rBin E a op t x y = some v) :
    ∃ u, (do eqGuard op t x y (e x) (e y); Go.binOp op t (e x) (e y) : Sem Value).run P w = .ok u w ∧ VRel ρ v u := by
  unfold rBin at hr
  cases h1 : opW a x with
  | none => rw [h1] at hr; cases hr
  | some x1 =>
    cases h2 : opW a y with
    | none => rw [h1, h2] at hr; cases hr
    | some y1 =>
      rw [h1, h2] at hr
      simp only [] at hr
      have rx := toW_rel hx h1
      have ry := toW_rel hy h2
      unfold binOp at hr
      cases x1 with
      | agg l =>
        cases y1 with
        | c _ => cases hr
        | agg r =>
          simp only [] at hr
          obtain ⟨xs, ex, lx⟩ := rx
          obtain ⟨ys, ey, ly⟩ := ry
          rw [ex, ey]
          exact eqSt_ok hE lx ly hr
      | c c1 =>
        cases y1 with
        | agg _ => cases hr
        | c c2 =>
          simp only [] at hr
          have plain : ∀ u v : Value, (∃ k n, u = .int k n) ∨ (∃ s, u = .string s) → (eqGuard op t x y u v).run P w = .ok () w := by
            intro u v h
            rcases h with ⟨k, n, rfl⟩ | ⟨s, rfl⟩ <;> unfold eqGuard <;> cases op <;> simp
          cases c1 <;> simp only [] at hr
          case int k n =>
            cases c2 <;> simp only [] at hr <;> try (cases hr; done)
            rotate_left
            · rename_i kk
              have ex : e x = .int k n := rx
              obtain ⟨m, ey, hm⟩ := ry
              rw [ex, ey]
              unfold geqOp at hr
              cases op <;> simp only [] at hr <;> try (cases hr; done)
              cases hb : and (kEq k .i64) (iLe n (Int.ofNat kk)) with
              | false => rw [hb] at hr; cases hr
              | true =>
                rw [hb] at hr
                cases hr
                rw [Bool.and_eq_true, kEq_iff, iLe_eq, decide_eq_true_eq] at hb
                obtain ⟨rfl, hle⟩ := hb
                have hi : intOp .gtr .i64 n m = some (.bool false) := by
                  show some (C.bool (!iLe n m)) = _
                  rw [iLe_eq, decide_eq_true (by have : n ≤ (kk : Int) := hle; omega)]; rfl
                obtain ⟨u, g1, g2⟩ := intOp_ok (P := P) (w := w) (ρ := ρ) t hi rfl
                exact ⟨u, by simp only [Sem.run_bind, plain _ _ (.inl ⟨_, _, rfl⟩), Result.andThen_ok, g1], g2⟩
            rename_i k' n'
            have ex : e x = .int k n := rx
            have ey : e y = .int k' n' := ry
            rw [ex, ey]
            cases hs : isShift op with
            | true =>
              rw [hs] at hr
              obtain ⟨c, hc, rfl⟩ := obC hr
              obtain ⟨u, g1, g2⟩ := shiftOp_ok (P := P) (w := w) (ρ := ρ) (k' := k') t hc
              exact ⟨u, by simp only [Sem.run_bind, plain _ _ (.inl ⟨_, _, rfl⟩), Result.andThen_ok, g1], g2⟩
            | false =>
              rw [hs] at hr
              simp only [] at hr
              cases hk : kEq k k' with
              | false => rw [hk] at hr; cases hr
              | true =>
                rw [hk] at hr
                have := (kEq_iff k k').1 hk
                subst this
                obtain ⟨c, hc, rfl⟩ := obC hr
                obtain ⟨u, g1, g2⟩ := intOp_ok (P := P) (w := w) (ρ := ρ) t hc hs
                exact ⟨u, by simp only [Sem.run_bind, plain _ _ (.inl ⟨_, _, rfl⟩), Result.andThen_ok, g1], g2⟩
          case str s =>
            cases c2 <;> simp only [] at hr <;> try (cases hr; done)
            obtain ⟨bs, ex, rfl⟩ := rx
            obtain ⟨bs', ey, rfl⟩ := ry
            rw [ex, ey]
            obtain ⟨c, hc, rfl⟩ := obC hr
            obtain ⟨u, g1, g2⟩ := strOp_ok (P := P) (w := w) (ρ := ρ) t hc
            exact ⟨u, by simp only [Sem.run_bind, plain _ _ (.inr ⟨_, rfl⟩), Result.andThen_ok, g1], g2⟩
          all_goals exact eqAt_ok hE rx ry hr (nilConst x) (nilConst y)

end
end Ev
