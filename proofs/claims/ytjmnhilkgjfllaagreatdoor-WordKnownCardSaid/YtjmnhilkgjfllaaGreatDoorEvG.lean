import Derived.Test.YtjmnhilkgjfllaaGreatDoorEvF
set_option linter.unusedVariables false
set_option linter.unusedSimpArgs false
namespace Ev
open Go

section
variable {P : Program} {w : World} {E : Env} {ρ : Mp} {a : A} {e : Operand → Value} {x : Operand}

theorem toW_rel {v : V} {u : Value} (h : VRel ρ v u) {y : W} (hy : v.toW = some y) : WRel ρ y u := by
  cases v <;> simp [V.toW] at hy; subst hy; exact h
theorem toC_rel {v : V} {u : Value} (h : VRel ρ v u) {c : C} (hy : v.toC = some c) : CRel ρ c u := by
  cases v with
  | w y => cases y <;> simp [V.toC] at hy; subst hy; exact h
  | _ => simp [V.toC] at hy
theorem toI_rel {v : V} {u : Value} (h : VRel ρ v u) {n : Int} (hy : v.toI = some n) : ∃ k, u = .int k n := by
  cases v with
  | w y => cases y with
    | c c => cases c <;> simp [V.toI] at hy; subst hy; exact ⟨_, h⟩
    | agg l => simp [V.toI] at hy
  | _ => simp [V.toI] at hy
theorem toB_rel {v : V} {u : Value} (h : VRel ρ v u) {b : Bool} (hy : v.toB = some b) : u = .bool b := by
  cases v with
  | w y => cases y with
    | c c => cases c <;> simp [V.toB] at hy; subst hy; exact h
    | agg l => simp [V.toB] at hy
  | _ => simp [V.toB] at hy
theorem toP_rel {v : V} {u : Value} (h : VRel ρ v u) {b o : Nat} (hy : v.toP = some (b, o)) : PtrRel ρ (b, o) u := by
  cases v with
  | w y => cases y with
    | c c => cases c <;> simp [V.toP] at hy; obtain ⟨rfl, rfl⟩ := hy; exact h
    | agg l => simp [V.toP] at hy
  | _ => simp [V.toP] at hy

/-- an operand's value is what the evaluator has for it -/
def OpRel (ρ : Mp) (a : A) (e : Operand → Value) (x : Operand) : Prop := VRel ρ (opnd a x) (e x)

theorem undT_some {t : TypeId} {d : TypeDesc} (hE : EnvOk E P) (h : undT E t = some d) : P.underlying t = some d ∧ ∃ i, E.tab.get t = some i ∧ i.und = d := by
  unfold undT at h
  cases hi : E.tab.get t with
  | none => rw [hi] at h; cases h
  | some i =>
    rw [hi] at h
    cases h
    obtain ⟨f, _, _, _, h4, _⟩ := hE.tab t i hi
    exact ⟨h4, i, rfl, rfl⟩

theorem obW {r : Option W} {v : V} (h : retW r = some v) : ∃ y, r = some y ∧ v = .w y := by
  cases r <;> simp [retW] at h; exact ⟨_, rfl, h.symm⟩
theorem obC {r : Option C} {v : V} (h : retC r = some v) : ∃ c, r = some c ∧ v = vc c := by
  cases r <;> simp [retC] at h; exact ⟨_, rfl, h.symm⟩

/-! ### one by one -/
theorem pick_ok {c y : Operand} (hc : OpRel ρ a e c) (hx : OpRel ρ a e x) (hy : OpRel ρ a e y) {v : V} (h : rPick a c x y = some v) :
    ∃ b, e c = .bool b ∧ VRel ρ v (if b then e x else e y) := by
  unfold rPick at h
  cases hb : (opnd a c).toB with
  | none => rw [hb] at h; cases h
  | some b =>
    refine ⟨b, toB_rel hc hb, ?_⟩
    rw [hb] at h
    cases b <;> cases h <;> simp <;> assumption

theorem load_ok (hE : EnvOk E P) {look : Look} (h : Sees ρ look w.heap) (hx : OpRel ρ a e x) {t : TypeId} {v : V} (hr : rLoad E look a t x = some v) :
    ∃ u, (Instr.loadAt t (e x)).run P w = .ok u w ∧ VRel ρ v u := by
  unfold rLoad at hr
  cases hp : opP a x with
  | none => rw [hp] at hr; cases hr
  | some bo =>
    obtain ⟨b, o⟩ := bo
    rw [hp] at hr
    simp only [] at hr
    obtain ⟨y, hy, rfl⟩ := obW hr
    obtain ⟨p, h1, h2⟩ := toP_rel hx hp
    obtain ⟨u, g1, g2⟩ := run_load_var hE h hy h1
    refine ⟨u, ?_, g1⟩
    unfold Instr.loadAt
    simp only [h2, Instr.sureAddr, Sem.run_bind, Sem.run_pure, Result.andThen_ok]
    exact g2

theorem fieldAt_some (hE : EnvOk E P) {t f : Nat} {fd : Field} {j : TI} (h : fieldAt E t f = some (fd, j)) :
    ∃ fs i, P.underlying t = some (.struct fs) ∧ fs[f]? = some fd ∧ E.tab.get fd.type = some j ∧ P.info? fd.type = some i ∧ i.size = j.size ∧ P.underlying fd.type = some j.und := by
  unfold fieldAt at h
  cases hu : undT E t with
  | none => rw [hu] at h; cases h
  | some d =>
    rw [hu] at h
    cases d <;> try (cases h; done)
    rename_i fs
    simp only [] at h
    cases hf : fs[f]? with
    | none => rw [hf] at h; cases h
    | some g =>
      rw [hf] at h
      simp only [] at h
      cases hi : E.tab.get g.type with
      | none => rw [hi] at h; cases h
      | some i =>
        rw [hi] at h
        cases h
        obtain ⟨k, k1, k2, _, k4, _⟩ := hE.tab _ _ hi
        exact ⟨fs, k, (undT_some hE hu).1, hf, hi, k1, k2, k4⟩

theorem fieldAddr_ok (hE : EnvOk E P) (hx : OpRel ρ a e x) {t f : Nat} {v : V} (hr : rFieldAddr E a t x f = some v) :
    ∃ u, (Instr.fieldAt t (e x) f).run P w = .ok u w ∧ VRel ρ v u := by
  unfold rFieldAddr at hr
  cases hp : opP a x with
  | none => rw [hp] at hr; cases hr
  | some bo =>
    obtain ⟨b, o⟩ := bo
    rw [hp] at hr
    simp only [] at hr
    obtain ⟨c, hc, rfl⟩ := obC hr
    obtain ⟨p, h1, h2⟩ := toP_rel hx hp
    unfold fieldAddr at hc
    cases hf : fieldAt E t f with
    | none => rw [hf] at hc; cases hc
    | some fj =>
      obtain ⟨fd, j⟩ := fj
      rw [hf] at hc
      simp only [] at hc
      cases hz : Nat.ble 1 j.size with
      | false => rw [hz] at hc; cases hc
      | true =>
        rw [hz] at hc
        simp only [force_eq, Option.some.injEq] at hc
        subst hc
        obtain ⟨fs, i, g1, g2, g3, g4, g5, g6⟩ := fieldAt_some hE hf
        have hz' := Nat.le_of_ble_eq_true hz
        refine ⟨.pointer (some ⟨p.c, p.o + (o + fd.offset), none⟩), ?_, ⟨p, h1, rfl⟩⟩
        unfold Instr.fieldAt
        simp only [h2, Sem.run_bind, run_und g1, Result.andThen_ok, g2, Instr.sureAddr, Sem.run_pure]
        unfold fieldPlace
        have : i.size ≠ 0 := by omega
        simp only [Sem.run_bind, run_size g4, Result.andThen_ok, this, if_false, Sem.run_pure, add_at, Nat.add_assoc]

theorem nil_ok (hx : OpRel ρ a e x) {v : V} (hr : rNil a x = some v) : ∃ ad, e x = .pointer (some ad) ∧ VRel ρ v (e x) := by
  unfold rNil at hr
  cases hp : opP a x with
  | none => rw [hp] at hr; cases hr
  | some bo =>
    obtain ⟨b, o⟩ := bo
    rw [hp] at hr
    cases hr
    have := toP_rel hx hp
    obtain ⟨p, h1, h2⟩ := this
    exact ⟨_, h2, ⟨p, h1, h2⟩⟩

theorem extract_ok (hx : OpRel ρ a e x) {i : Nat} {v : V} (hr : rExtract a x i = some v) : ∃ u, (Instr.extract (e x) i).run P w = .ok u w ∧ VRel ρ v u := by
  unfold rExtract at hr
  unfold OpRel at hx
  cases ho : opnd a x with
  | w y => rw [ho] at hr; cases hr
  | un => rw [ho] at hr; cases hr
  | tup l =>
    rw [ho] at hr hx
    simp only [] at hr
    obtain ⟨arr, h1, h2⟩ := hx
    cases hl : l[i]? with
    | none => rw [hl] at hr; cases hr
    | some y =>
      rw [hl] at hr; cases hr
      obtain ⟨u, g1, g2⟩ := h2.get hl
      refine ⟨u, ?_, g2⟩
      unfold Instr.extract
      simp at g1
      simp [h1, g1]

theorem inB_some {i : Int} {n m : Nat} (h : inB i n = some m) : i = (m : Int) ∧ m < n := by
  cases i with
  | negSucc j => cases h
  | ofNat j =>
    unfold inB at h
    cases hb : Nat.ble (Nat.succ j) n with
    | false => simp only [hb] at h; cases h
    | true => simp only [hb] at h; cases h; exact ⟨rfl, Nat.le_of_ble_eq_true hb⟩
theorem sizeT_some (hE : EnvOk E P) {t z : Nat} (h : sizeT E t = some z) : ∃ i, P.info? t = some i ∧ i.size = z := by
  unfold sizeT at h
  cases hi : E.tab.get t with
  | none => rw [hi] at h; cases h
  | some i => rw [hi] at h; cases h; obtain ⟨f, h1, h2, _⟩ := hE.tab t i hi; exact ⟨f, h1, h2⟩

theorem sl_ad {p : Place} {o n cp z : Nat} {cap : Option Nat} {ad : Addr} (h : SlOk p o n cap z ad cp) (hn : 0 < cp) : ad = ⟨p.c, p.o + o, none⟩ := by
  cases cap with
  | none => exact (h.op rfl).2.resolve_right (by omega)
  | some k => exact (h.ex k rfl).2.2

theorem indexAddr_ok (hE : EnvOk E P) {i : Operand} (hx : OpRel ρ a e x) (hi : OpRel ρ a e i) {t : Nat} {v : V} (hr : rIndexAddr E a t x i = some v) :
    ∃ u, (Instr.indexAt t (e x) (e i)).run P w = .ok u w ∧ VRel ρ v u := by
  unfold rIndexAddr at hr
  cases hc : opC a x with
  | none => rw [hc] at hr; cases hr
  | some c =>
    rw [hc] at hr
    simp only [] at hr
    cases hn : opI a i with
    | none => rw [hn] at hr; cases hr
    | some n =>
      rw [hn] at hr
      simp only [] at hr
      obtain ⟨d, hd, rfl⟩ := obC hr
      obtain ⟨k, hk⟩ := toI_rel hi hn
      have hcx := toC_rel hx hc
      unfold indexAddr at hd
      cases hu : undT E t with
      | none => rw [hu] at hd; cases hd
      | some ty =>
        rw [hu] at hd
        have hu' := (undT_some hE hu).1
        cases ty <;> try (cases hd; done)
        case array len el =>
          cases c <;> try (cases hd; done)
          rename_i b o
          simp only [] at hd
          cases hb : inB n len with
          | none => rw [hb] at hd; cases hd
          | some m =>
            rw [hb] at hd
            simp only [] at hd
            cases hz : sizeT E el with
            | none => rw [hz] at hd; cases hd
            | some z =>
              rw [hz] at hd
              simp only [force_eq, Option.some.injEq] at hd
              subst hd
              obtain ⟨f, f1, f2⟩ := sizeT_some hE hz
              obtain ⟨p, g1, g2⟩ := hcx
              obtain ⟨rfl, hm⟩ := inB_some hb
              refine ⟨.pointer (some ⟨p.c, p.o + (o + m * z), none⟩), ?_, ⟨p, g1, rfl⟩⟩
              unfold Instr.indexAt
              simp [asIntOf, hk, g2, Instr.sureAddr, run_und hu', run_size f1, f2, add_at, Nat.add_assoc]
              intro hh; omega
        case slice el =>
          cases c <;> try (cases hd; done)
          rename_i b o ln cap zz
          simp only [] at hd
          cases hb : inB n ln with
          | none => rw [hb] at hd; cases hd
          | some m =>
            rw [hb] at hd
            simp only [] at hd
            cases hz : sizeT E el with
            | none => rw [hz] at hd; cases hd
            | some z =>
              rw [hz] at hd
              simp only [force_eq, Option.some.injEq] at hd
              subst hd
              obtain ⟨f, f1, f2⟩ := sizeT_some hE hz
              obtain ⟨p, ad, cp, g1, g2, g3⟩ := hcx
              obtain ⟨rfl, hm⟩ := inB_some hb
              have hcp := g3.le
              have had := sl_ad g3 (by omega)
              refine ⟨.pointer (some ⟨p.c, p.o + (o + m * z), none⟩), ?_, ⟨p, g1, rfl⟩⟩
              unfold Instr.indexAt
              simp [asIntOf, hk, g2, run_und hu', run_size f1, f2, had, add_at, Nat.add_assoc]
              intro hh; omega

end
end Ev
