import Derived.Test.YtjmnhilkgjfllaaGreatDoorEvI
import Derived.Test.YtjmnhilkgjfllaaGreatDoorEvU
set_option linter.unusedVariables false
set_option linter.unusedSimpArgs false
namespace Ev
open Go

section
variable {P : Program} {w : World} {E : Env} {ρ : Mp} {a : A} {e : Operand → Value} {x y : Operand}

theorem un_ok (hx : OpRel ρ a e x) {op : UnOp} {v : V} (hr : rUn a op x = some v) : ∃ u, (Op.unary op (e x)).run P w = .ok u w ∧ VRel ρ v u := by
  unfold rUn at hr
  cases hc : opC a x with
  | none => rw [hc] at hr; cases hr
  | some c =>
    rw [hc] at hr
    simp only [] at hr
    obtain ⟨d, hd, rfl⟩ := obC hr
    have hcx := toC_rel hx hc
    cases c <;> try (simp only [unOp] at hd; cases hd; done)
    case bool b =>
      have ex : e x = .bool b := hcx
      cases op <;> simp only [unOp] at hd <;> try (cases hd; done)
      cases hd
      exact ⟨.bool (!b), by rw [ex]; rfl, rfl⟩
    case int k n =>
      have ex : e x = .int k n := hcx
      cases op <;> simp only [unOp, intC_eq, wrapK_eq, Option.some.injEq] at hd <;> try (cases hd; done)
      case neg =>
        subst hd
        exact ⟨_, by rw [ex]; rfl, rfl⟩
      case xor =>
        subst hd
        refine ⟨_, by rw [ex]; simp [Op.unary, Op.intBits] <;> rfl, ?_⟩
        simp only [vc, VRel, WRel, CRel, bitsN_eq]; simp <;> rfl

theorem mkPart (hE : EnvOk E P) {t : TypeId} {j : TI} (hi : E.tab.get t = some j) {l : List C} {cs : Array Value} (hl : LRel ρ l cs.toList) {o : Nat} {r : W} (h : mkW j.isAgg ((l.drop o).take j.size) = some r) :
    ∃ u, (part t cs o).run P w = .ok u w ∧ WRel ρ r u := by
  obtain ⟨f, f1, f2, f3, f4, _⟩ := hE.tab t j hi
  have hl2 : LRel ρ ((l.drop o).take j.size) ((cs.toList.drop o).take j.size) := All2.take (All2.drop hl o) j.size
  unfold part
  rcases mkW_rel hl2 h with ⟨ha, rfl, hw⟩ | ⟨ha, c, v, h1, h2, rfl, hc⟩
  · have ha' : isAggT j.und = true := ha
    refine ⟨_, ?_, hw⟩
    simp only [Sem.run_bind, run_agg f4, Result.andThen_ok, ha', if_true, run_size f1, f2, Sem.run_pure]
    congr 2
    apply Array.ext'
    simp [Array.toList_extract, List.extract_eq_take_drop]
  · have ha' : isAggT j.und = false := ha
    refine ⟨v, ?_, hc⟩
    have hg : cs[o]? = some v := by
      have := congrArg (fun q => q[0]?) h2
      simp only [List.getElem?_take, List.getElem?_drop] at this
      split at this
      · simpa using this
      · simp at this
    simp only [Sem.run_bind, run_agg f4, Result.andThen_ok, ha', Bool.false_eq_true, if_false, hg, Sem.run_pure]

theorem field_ok (hE : EnvOk E P) (hx : OpRel ρ a e x) {t f : Nat} {v : V} (hr : rField E a t x f = some v) : ∃ u, (Instr.field t (e x) f).run P w = .ok u w ∧ VRel ρ v u := by
  unfold rField at hr
  cases h1 : opW a x with
  | none => rw [h1] at hr; cases hr
  | some x1 =>
    rw [h1] at hr
    simp only [] at hr
    obtain ⟨r, hq, rfl⟩ := obW hr
    clear hr
    unfold field at hq
    cases hf : fieldAt E t f with
    | none => rw [hf] at hq; cases hq
    | some fj =>
      obtain ⟨fd, j⟩ := fj
      rw [hf] at hq
      simp only [] at hq
      obtain ⟨fs, i, g1, g2, g3, g4, g5, g6⟩ := fieldAt_some hE hf
      cases x1 with
      | c _ => cases hq
      | agg l =>
        simp only [] at hq
        obtain ⟨cs, ex, hl⟩ := toW_rel hx h1
        obtain ⟨u, k1, k2⟩ := mkPart (P := P) (w := w) hE g3 hl hq
        refine ⟨u, ?_, k2⟩
        unfold Instr.field
        simp only [ex, Sem.run_bind, run_und g1, Result.andThen_ok, g2, asAgg, Sem.run_pure, k1]

theorem index_ok (hE : EnvOk E P) {i : Operand} (hx : OpRel ρ a e x) (hi : OpRel ρ a e i) {t : Nat} {v : V} (hr : rIndex E a t x i = some v) :
    ∃ u, (Instr.index t (e x) (e i)).run P w = .ok u w ∧ VRel ρ v u := by
  unfold rIndex at hr
  cases h1 : opW a x with
  | none => rw [h1] at hr; cases hr
  | some x1 =>
    rw [h1] at hr
    simp only [] at hr
    cases hn : opI a i with
    | none => rw [hn] at hr; cases hr
    | some n =>
      rw [hn] at hr
      simp only [] at hr
      obtain ⟨r, hq, rfl⟩ := obW hr
      clear hr
      obtain ⟨k, hk⟩ := toI_rel hi hn
      have hcx := toW_rel hx h1
      unfold index at hq
      cases hu : undT E t with
      | none => rw [hu] at hq; cases hq
      | some ty =>
        rw [hu] at hq
        have hu' := (undT_some hE hu).1
        cases ty <;> try (cases hq; done)
        case array len el =>
          cases x1 with
          | c _ => cases hq
          | agg l =>
            simp only [] at hq
            cases hb : inB n len with
            | none => rw [hb] at hq; cases hq
            | some m =>
              rw [hb] at hq
              simp only [] at hq
              cases hj : E.tab.get el with
              | none => rw [hj] at hq; cases hq
              | some j =>
                rw [hj] at hq
                simp only [] at hq
                obtain ⟨cs, ex, hl⟩ := hcx
                obtain ⟨rfl, hm⟩ := inB_some hb
                obtain ⟨f, f1, f2, _⟩ := hE.tab el j hj
                obtain ⟨u, k1, k2⟩ := mkPart (P := P) (w := w) hE hj hl hq
                refine ⟨u, ?_, k2⟩
                unfold Instr.index
                have hc : (0 : Int) ≤ (m : Int) ∧ (m : Int) < (len : Int) := by omega
                simp only [asIntOf, hk, ex, Sem.run_bind, Sem.run_pure, run_und hu', Result.andThen_ok, hc, and_self, if_true, run_size f1, f2, Int.toNat_natCast]
                exact k1
        case string =>
          cases x1 with
          | agg _ => cases hq
          | c c1 =>
            cases c1 <;> simp only [] at hq <;> try (cases hq; done)
            rename_i s
            cases hb : inB n s.len with
            | none => rw [hb] at hq; cases hq
            | some m =>
              rw [hb] at hq
              cases hq
              obtain ⟨bs, ex, rfl⟩ := hcx
              obtain ⟨rfl, hm⟩ := inB_some hb
              have hm' : m < bs.size := hm
              refine ⟨.int .u8 ((bs.get! m).toNat : Nat), ?_, ?_⟩
              · unfold Instr.index
                have hg : bs[m]? = some (bs.get! m) := by
                  rw [getElem?_pos bs m hm']
                  congr 1
                  show bs.data[m] = bs.data[m]!
                  rw [getElem!_pos bs.data m (by simpa using hm')]
                have hc : (0 : Int) ≤ (m : Int) := by omega
                simp only [asIntOf, hk, ex, Sem.run_bind, Sem.run_pure, run_und hu', Result.andThen_ok, hc, if_true, Int.toNat_natCast, hg]
              · show _ = _
                rw [at_get bs m hm']; rfl

theorem notIface_ok (hE : EnvOk E P) {t : TypeId} (h : notIface E t = true) : ∃ d, P.underlying t = some d ∧ (∀ ms, d ≠ .interface ms) := by
  unfold notIface at h
  cases hu : undT E t with
  | none => rw [hu] at h; cases h
  | some d =>
    rw [hu] at h
    refine ⟨d, (undT_some hE hu).1, ?_⟩
    rintro ms rfl
    cases h

theorem mkIface_ok (hE : EnvOk E P) (hx : OpRel ρ a e x) {t : TypeId} {v : V} (hr : rMakeInterface E a t x = some v) : ∃ u, (Instr.makeInterface t (e x)).run P w = .ok u w ∧ VRel ρ v u := by
  unfold rMakeInterface at hr
  cases hn : notIface E t with
  | false => rw [hn] at hr; cases hr
  | true =>
    rw [hn] at hr
    simp only [] at hr
    obtain ⟨d, hd, hne⟩ := notIface_ok hE hn
    have hrun : (Instr.makeInterface t (e x)).run P w = .ok (.iface t (e x)) w := by
      unfold Instr.makeInterface
      simp only [Sem.run_bind, run_und hd, Result.andThen_ok]
      cases d <;> first | rfl | exact absurd rfl (hne _)
    cases h1 : opW a x with
    | none => rw [h1] at hr; cases hr
    | some x1 =>
      have hw := toW_rel hx h1
      rw [h1] at hr
      cases x1 with
      | c c => cases hr; exact ⟨_, hrun, ⟨e x, rfl, hw⟩⟩
      | agg l =>
        cases l with
        | cons _ _ => cases hr
        | nil =>
          cases hr
          obtain ⟨cs, ex, hl⟩ := hw
          have : cs = #[] := by
            have := hl.length
            simp at this
            exact Array.eq_empty_of_size_eq_zero this.symm
          refine ⟨_, hrun, ?_⟩
          show _ = _
          rw [ex, this]

theorem ptrs_ok : ∀ (l : List Operand) (r : List (Nat × Nat)), (∀ x ∈ l, OpRel ρ a e x) → ptrsOf a l = some r → All2 (PtrRel ρ) r (l.map e)
  | [], r, _, h => by simp only [ptrsOf, Option.some.injEq] at h; subst h; exact .nil
  | x :: l, r, ho, h => by
    simp only [ptrsOf] at h
    cases h1 : opP a x with
    | none => rw [h1] at h; cases h
    | some p =>
      rw [h1] at h
      simp only [] at h
      cases h2 : ptrsOf a l with
      | none => rw [h2] at h; cases h
      | some r' =>
        rw [h2] at h
        cases h
        exact .cons (toP_rel (ho x (by simp)) h1) (ptrs_ok l r' (fun y hy => ho y (by simp [hy])) h2)

theorem mkFunc_ok {f : Fn} {first cap : Array Operand} (hc : ∀ x ∈ cap.toList, OpRel ρ a e x) {v : V} (hr : rMakeFunc a f first.toList cap.toList = some v) :
    ∃ u, (Instr.makeFunc f (first.map e) (cap.map e)).run P w = .ok u w ∧ VRel ρ v u := by
  unfold rMakeFunc at hr
  cases f <;> try (cases hr; done)
  rename_i f
  cases h1 : first.toList with
  | cons _ _ => rw [h1] at hr; cases hr
  | nil =>
    rw [h1] at hr
    simp only [] at hr
    cases h2 : ptrsOf a cap.toList with
    | none => rw [h2] at hr; cases hr
    | some r =>
      rw [h2] at hr
      cases hr
      have hf : first = #[] := by apply Array.ext'; rw [h1]
      subst hf
      refine ⟨_, rfl, ⟨cap.map e, by simp, ?_⟩⟩
      simpa using ptrs_ok cap.toList r hc h2

theorem len_ok (hE : EnvOk E P) {look : Look} (h : Sees ρ look w.heap) (hx : OpRel ρ a e x) {ts : Array TypeId} {ty : TypeId} {v : V} (hr : rLen E look a ts x = some v) :
    ∃ u, (Builtin.len_ ts ty #[e x]).run P w = .ok u w ∧ VRel ρ v u := by
  unfold rLen at hr
  cases ht : ts[0]? with
  | none => rw [ht] at hr; cases hr
  | some t =>
    rw [ht] at hr
    simp only [] at hr
    cases hc : opC a x with
    | none => rw [hc] at hr; cases hr
    | some c =>
      rw [hc] at hr
      simp only [] at hr
      cases hl : len E t look c with
      | none => rw [hl] at hr; cases hr
      | some n =>
        rw [hl] at hr
        cases hr
        have hcx := toC_rel hx hc
        refine ⟨goInt n, ?_, rfl⟩
        unfold len at hl
        cases hu : undT E t with
        | none => rw [hu] at hl; cases hl
        | some d =>
          rw [hu] at hl
          have hu' := (undT_some hE hu).1
          unfold Builtin.len_
          simp only [ht, List.getElem?_toArray, List.getElem?_cons_zero]
          cases d <;> simp only [] at hl <;> try (cases hl; done)
          case string =>
            cases c <;> simp only [] at hl <;> try (cases hl; done)
            cases hl
            obtain ⟨bs, ex, rfl⟩ := hcx
            simp only [Sem.run_bind, run_und hu', Result.andThen_ok, ex]; rfl
          case slice =>
            cases c <;> simp only [] at hl <;> try (cases hl; done)
            · cases hl
              have ex : e x = _ := hcx
              simp only [Sem.run_bind, run_und hu', Result.andThen_ok, ex]; rfl
            · cases hl
              obtain ⟨p, ad, cp, _, ex, _⟩ := hcx
              simp only [Sem.run_bind, run_und hu', Result.andThen_ok, ex]; rfl
          case array =>
            cases hl
            simp only [Sem.run_bind, run_und hu', Result.andThen_ok]; rfl
          case map =>
            cases c <;> simp only [] at hl <;> try (cases hl; done)
            · cases hl
              have ex : e x = _ := hcx
              simp only [Sem.run_bind, run_und hu', Result.andThen_ok, ex]; rfl
            · rename_i r
              obtain ⟨p, hp, ex⟩ := hcx
              cases hm : look r with
              | none => rw [hm] at hl; cases hl
              | some bk =>
                rw [hm] at hl
                cases bk <;> simp only [] at hl <;> try (cases hl; done)
                cases hl
                obtain ⟨ob, g2, arr, clk, rfl, g3⟩ := h r _ p hm rfl hp
                have hlen := g3.length
                simp only [Sem.run_bind, run_und hu', Result.andThen_ok, ex]
                have hgo : (getObj p.c).run P w = .ok (.map arr clk) w := by
                  show Sem.run P (Sem.getObj p.c Sem.pure) w = _
                  rw [Sem.run, g2]; rfl
                simp only [hgo, Result.andThen_ok, Sem.run_pure]
                rw [lenA_zero, hlen]; simp

theorem min_ok (hx : OpRel ρ a e x) (hy : OpRel ρ a e y) {ts : Array TypeId} {ty : TypeId} {v : V} (hr : rMin a x y = some v) : ∃ u, (Builtin.min_ ts ty #[e x, e y]).run P w = .ok u w ∧ VRel ρ v u := by
  unfold rMin at hr
  cases h1 : opC a x with
  | none => rw [h1] at hr; cases hr
  | some c =>
    rw [h1] at hr
    cases c <;> simp only [] at hr <;> try (cases hr; done)
    cases h2 : opC a y with
    | none => rw [h2] at hr; cases hr
    | some d =>
      rw [h2] at hr
      cases d <;> simp only [] at hr <;> try (cases hr; done)
      rename_i k n k' m
      have ex : e x = .int k n := toC_rel hx h1
      have ey : e y = .int k' m := toC_rel hy h2
      rw [iLe_eq] at hr
      refine ⟨.int k (if m < n then m else n), ?_, ?_⟩
      · unfold Builtin.min_
        simp [ex, ey, Builtin.min2]
      · by_cases hle : n ≤ m
        · rw [decide_eq_true hle] at hr; cases hr
          show _ = _; rw [if_neg (by omega)]
        · rw [decide_eq_false hle] at hr; cases hr
          show _ = _; rw [if_pos (by omega)]

theorem max_ok (hx : OpRel ρ a e x) (hy : OpRel ρ a e y) {ts : Array TypeId} {ty : TypeId} {v : V} (hr : rMax a x y = some v) : ∃ u, (Builtin.max_ ts ty #[e x, e y]).run P w = .ok u w ∧ VRel ρ v u := by
  unfold rMax at hr
  cases h1 : opC a x with
  | none => rw [h1] at hr; cases hr
  | some c =>
    rw [h1] at hr
    cases c <;> simp only [] at hr <;> try (cases hr; done)
    cases h2 : opC a y with
    | none => rw [h2] at hr; cases hr
    | some d =>
      rw [h2] at hr
      cases d <;> simp only [] at hr <;> try (cases hr; done)
      rename_i k n k' m
      have ex : e x = .int k n := toC_rel hx h1
      have ey : e y = .int k' m := toC_rel hy h2
      rw [iLe_eq] at hr
      refine ⟨.int k (if m > n then m else n), ?_, ?_⟩
      · unfold Builtin.max_
        simp [ex, ey, Builtin.max2]
      · by_cases hle : m ≤ n
        · rw [decide_eq_true hle] at hr; cases hr
          show _ = _; rw [if_neg (by omega)]
        · rw [decide_eq_false hle] at hr; cases hr
          show _ = _; rw [if_pos (by omega)]

theorem cap_ok (hE : EnvOk E P) {look : Look} (h : Sees ρ look w.heap) (hx : OpRel ρ a e x) {ts : Array TypeId} {ty : TypeId} {v : V} (hr : rCap E look a ts x = some v) :
    ∃ u, (Builtin.cap_ ts ty #[e x]).run P w = .ok u w ∧ VRel ρ v u := by
  unfold rCap at hr
  cases ht : ts[0]? with
  | none => rw [ht] at hr; cases hr
  | some t =>
    rw [ht] at hr
    simp only [] at hr
    cases hu : undT E t with
    | none => rw [hu] at hr; cases hr
    | some d =>
      rw [hu] at hr
      have hu' := (undT_some hE hu).1
      cases d <;> simp only [] at hr <;> try (cases hr; done)
      unfold Builtin.cap_
      simp only [ht, List.getElem?_toArray, List.getElem?_cons_zero]
      cases hc : opC a x with
      | none => rw [hc] at hr; cases hr
      | some c =>
        rw [hc] at hr
        have hcx := toC_rel hx hc
        cases c <;> (try simp only [] at hr) <;> try (cases hr; done)
        · cases hr
          have ex : e x = _ := hcx
          exact ⟨goInt 0, by simp only [Sem.run_bind, run_und hu', Result.andThen_ok, ex]; rfl, rfl⟩
        · rename_i b o n cap z
          cases cap with
          | none =>
            simp only [] at hr
            unfold capOpen at hr
            cases z with
            | zero => cases hr
            | succ z =>
              simp only [] at hr
              cases hrow : rowOf look b with
              | none => rw [hrow] at hr; cases hr
              | some r =>
                rw [hrow] at hr
                cases hr
                obtain ⟨p, ad, cp, hp, ex, hs⟩ := hcx
                refine ⟨goInt cp, by simp only [Sem.run_bind, run_und hu', Result.andThen_ok, ex]; rfl, (cp : Int), rfl, ?_⟩
                have hlk : look b = some (.row r) := by
                  unfold rowOf at hrow
                  cases hx : look b with
                  | none => rw [hx] at hrow; cases hrow
                  | some y =>
                    rw [hx] at hrow
                    cases y <;> first | (cases hrow; rfl) | cases hrow
                obtain ⟨ob, _, arr, ty', fz, _, hrw⟩ := h b _ p hlk rfl hp
                have hkn := hrw.kn
                have hop := (hs.op rfl).1
                have : (r.n - o) / (z + 1) ≤ cp := Nat.div_le_of_le_mul (by rw [Nat.mul_comm]; omega)
                exact Int.ofNat_le.2 this
          | some k =>
            cases hr
            obtain ⟨p, ad, cp, _, ex, hs⟩ := hcx
            have := (hs.ex k rfl).1
            subst this
            exact ⟨goInt cp, by simp only [Sem.run_bind, run_und hu', Result.andThen_ok, ex]; rfl, rfl⟩

end
end Ev
