import Derived.Test.YtjmnhilkgjfllaaGreatDoorEvK
set_option linter.unusedVariables false
set_option linter.unusedSimpArgs false
namespace Ev
open Go

section
variable {P : Program} {w : World} {E : Env} {ρ : Mp} {a : A} {e : Operand → Value} {x y : Operand}

def OptOk (ρ : Mp) (o : Option Value) (c : Option C) : Prop :=
  (∀ k, c = some k → ∃ u, o = some u ∧ CRel ρ k u) ∧ (c = none → o = none)
theorem optC_ok {o : Option Operand} {c : Option C} (ho : ∀ x, o = some x → OpRel ρ a e x) (h : optC a o = some c) : OptOk ρ (o.map e) c := by
  cases o with
  | none => simp only [optC, Option.some.injEq] at h; subst h; exact ⟨fun k hk => (by cases hk), fun _ => rfl⟩
  | some x =>
    simp only [optC] at h
    cases h1 : opC a x with
    | none => rw [h1] at h; cases h
    | some d =>
      rw [h1] at h
      simp only [Option.some.injEq] at h
      subst h
      exact ⟨fun k hk => (by cases hk; exact ⟨e x, rfl, toC_rel (ho x rfl) h1⟩), fun hk => (by cases hk)⟩

theorem inB_mono {i : Int} {n n' m : Nat} (h : inB i n = some m) (hn : n ≤ n') : inB i n' = some m := by
  obtain ⟨rfl, hm⟩ := inB_some h
  show (match Nat.ble (Nat.succ m) n' with | true => some m | false => none) = some m
  rw [Nat.ble_eq_true_of_le (by omega)]
theorem bound_mono {c : Option C} {d y y' m : Nat} (h : bound c d y = some m) (hy : y ≤ y') : bound c d y' = some m := by
  cases c with
  | none => exact h
  | some k => cases k <;> first | exact inB_mono h (by omega) | (simp only [bound] at h; cases h)
theorem cut3_mono {cl ch cm : Option C} {n K C l h m : Nat} (hcut : cut3 cl ch cm n K = some (l, h, m)) (hK : K ≤ C) :
    ∃ m', cut3 cl ch cm n C = some (l, h, m') ∧ (cm ≠ none → m' = m) ∧ (cm = none → m' = C) := by
  unfold cut3 at hcut
  cases h1 : bound cm K K with
  | none => rw [h1] at hcut; cases hcut
  | some m1 =>
    rw [h1] at hcut
    simp only [] at hcut
    cases h2 : bound ch n m1 with
    | none => rw [h2] at hcut; cases hcut
    | some h' =>
      rw [h2] at hcut
      simp only [] at hcut
      cases h3 : bound cl 0 h' with
      | none => rw [h3] at hcut; cases hcut
      | some l' =>
        rw [h3] at hcut
        cases hcut
        cases cm with
        | none =>
          simp only [bound, Option.some.injEq] at h1
          subst h1
          refine ⟨C, ?_, fun h => absurd rfl h, fun _ => rfl⟩
          unfold cut3
          rw [show bound none C C = some C from rfl]
          simp only []
          rw [bound_mono h2 hK]
          simp only []
          rw [h3]
        | some k =>
          refine ⟨m, ?_, fun _ => rfl, fun h => by cases h⟩
          unfold cut3
          have : bound (some k) C C = some m := by
            have := bound_mono h1 hK
            cases k <;> first | exact this | (simp only [bound] at this; cases this)
          rw [this]
          simp only [h2, h3]

theorem noHi_false {hi mx : Option C} (h : noHi hi mx = false) : mx ≠ none → hi ≠ none := by
  cases mx <;> cases hi <;> simp [noHi] at h ⊢

theorem cutSl_some {b o z : Nat} {r : Option (Nat × Nat × Nat)} {d : C} (h : cutSl b o z r = some d) :
    ∃ l hh m, r = some (l, hh, m) ∧ d = .sl b (if m = l then o else o + l * z) (hh - l) (some (m - l)) z := by
  cases r with
  | none => cases h
  | some p =>
    obtain ⟨l, hh, m⟩ := p
    refine ⟨l, hh, m, rfl, ?_⟩
    simp only [cutSl, Option.some.injEq] at h
    rw [← h]
    cases hb : Nat.beq m l with
    | true => rw [if_pos (Nat.eq_of_beq_eq_true hb)]; rfl
    | false => rw [if_neg (by intro hml; subst hml; simp at hb)]; rfl

/-- the pieces of a cut with known capacity -/
theorem cut_sl {p : Place} {b o c l h m z : Nat} (hp : ρ b = some p) (hz : 0 < z) (hlh : l ≤ h) (hmc : m ≤ c) (hhm : h ≤ m) (hk : o + c * z ≤ p.kn) (ht : p.o + o + c * z ≤ p.tot) :
    CRel ρ (.sl b (if m = l then o else o + l * z) (h - l) (some (m - l)) z) (.slice (some (if m = l then ⟨p.c, p.o + o, none⟩ else (⟨p.c, p.o + o, none⟩ : Addr).add (l * z))) (h - l) (m - l)) := by
  have e1 : m * z ≤ c * z := Nat.mul_le_mul_right z hmc
  have e2 : l * z + (m - l) * z = m * z := by rw [← Nat.add_mul]; congr 1; omega
  have e3 : l * z + (h - l) * z = h * z := by rw [← Nat.add_mul]; congr 1; omega
  have e4 : h * z ≤ m * z := Nat.mul_le_mul_right z hhm
  by_cases hml : m = l
  · have : h = l := by omega
    subst hml; subst this
    simp only [if_true, Nat.sub_self]
    refine ⟨p, _, _, hp, rfl, ⟨hz, by omega, fun k hk' => ?_, fun hk' => (by cases hk'), by omega, by omega⟩⟩
    cases hk'; exact ⟨rfl, by omega, rfl⟩
  · simp only [if_neg hml, add_at]
    refine ⟨p, _, _, hp, rfl, ⟨hz, by omega, fun k hk' => ?_, fun hk' => (by cases hk'), by omega, by omega⟩⟩
    cases hk'; exact ⟨rfl, by omega, by simp; omega⟩

theorem slice_ok (hE : EnvOk E P) {look : Look} (h : Sees ρ look w.heap) (hx : OpRel ρ a e x) {t : TypeId} {lo hi mx : Option Operand}
    (hlo : ∀ x, lo = some x → OpRel ρ a e x) (hhi : ∀ x, hi = some x → OpRel ρ a e x) (hmx : ∀ x, mx = some x → OpRel ρ a e x) {v : V} (hr : rSlice E look a t x lo hi mx = some v) :
    ∃ u, (Instr.sliceAt t (e x) (lo.map e) (hi.map e) (mx.map e)).run P w = .ok u w ∧ VRel ρ v u := by
  unfold rSlice at hr
  cases hc : opC a x with
  | none => rw [hc] at hr; cases hr
  | some c =>
    rw [hc] at hr
    simp only [] at hr
    cases h1 : optC a lo with
    | none => rw [h1] at hr; cases hr
    | some cl =>
      rw [h1] at hr
      simp only [] at hr
      cases h2 : optC a hi with
      | none => rw [h2] at hr; cases hr
      | some ch =>
        rw [h2] at hr
        simp only [] at hr
        cases h3 : optC a mx with
        | none => rw [h3] at hr; cases hr
        | some cm =>
          rw [h3] at hr
          simp only [] at hr
          cases h4 : noHi ch cm with
          | true => rw [h4] at hr; cases hr
          | false =>
            rw [h4] at hr
            simp only [] at hr
            obtain ⟨d, hd, rfl⟩ := obC hr
            clear hr
            have hcx := toC_rel hx hc
            have o1 := optC_ok hlo h1
            have o2 := optC_ok hhi h2
            have o3 := optC_ok hmx h3
            have hno := noHi_false h4
            clear h1 h2 h3 h4 hlo hhi hmx
            generalize lo.map e = lo' at o1 ⊢
            generalize hi.map e = hi' at o2 ⊢
            generalize mx.map e = mx' at o3 ⊢
            unfold slice at hd
            cases hu : undT E t with
            | none => rw [hu] at hd; cases hd
            | some ty =>
              rw [hu] at hd
              have hu' := (undT_some hE hu).1
              have arr : ∀ (b o n el z : Nat) (p : Place) (d : C), ρ b = some p → sizeT E el = some z → cutArr look b o n z (cut3 cl ch cm n n) = some d → ∃ l h m,
                  (Instr.sliceBounds false n n lo' hi' mx').run P w = .ok (l, h, m) w ∧ (Go.sizeOf el).run P w = .ok z w ∧ CRel ρ d (.slice (some (if m = l then ⟨p.c, p.o + o, none⟩ else (⟨p.c, p.o + o, none⟩ : Addr).add (l * z))) (h - l) (m - l)) := by
                intro b o n el z p d hp hz hq
                unfold cutArr at hq
                cases hro : rowOf look b with
                | none => rw [hro] at hq; cases hq
                | some r =>
                  rw [hro] at hq
                  simp only [] at hq
                  cases hb : and (Nat.ble 1 z) (Nat.ble (Nat.add o (Nat.mul n z)) r.n) with
                  | false => rw [hb] at hq; cases hq
                  | true =>
                    rw [hb] at hq
                    simp only [] at hq
                    rw [Bool.and_eq_true] at hb
                    have hz1 : 1 ≤ z := Nat.le_of_ble_eq_true hb.1
                    have hle : o + n * z ≤ r.n := Nat.le_of_ble_eq_true hb.2
                    obtain ⟨l, hh, m, hcut, rfl⟩ := cutSl_some hq
                    obtain ⟨k1, k2, k3, _, _, k4⟩ := cut3_ok (P := P) (w := w) (isSlice := false) o1 o2 o3 hno hcut (Nat.le_refl n)
                    obtain ⟨ob, q2, q3⟩ := h b _ p (rowOf_some hro) rfl hp
                    obtain ⟨av, el', fz, _, hrow⟩ := q3
                    obtain ⟨f, f1, f2⟩ := sizeT_some hE hz
                    have hkn := hrow.kn
                    have hrl := hrow.le
                    refine ⟨l, hh, m, k1, by rw [run_size f1, f2], cut_sl hp hz1 k2 k3 k4 (by omega) (by omega)⟩
              cases ty <;> try (cases hd; done)
              case string =>
                cases c <;> try (cases hd; done)
                rename_i s
                simp only [] at hd
                cases cm with
                | some _ => cases hd
                | none =>
                  rw [o3.2 rfl]
                  cases hq : cut3 cl ch none s.len s.len with
                  | none => rw [hq] at hd; cases hd
                  | some r =>
                    obtain ⟨l, hh, m⟩ := r
                    rw [hq] at hd
                    simp only [cutStr, Option.some.injEq] at hd
                    subst hd
                    obtain ⟨bs, ex, rfl⟩ := hcx
                    obtain ⟨k1, k2, k3, k5, k6, k4⟩ := cut3_ok (P := P) (w := w) (mx := none) (isSlice := false) o1 o2 ⟨fun k hk => (by cases hk), fun _ => rfl⟩ (fun hk => absurd rfl hk) hq (Nat.le_refl _)
                    refine ⟨.string (bs.extract l hh), ?_, ⟨_, rfl, ?_⟩⟩
                    · unfold Instr.sliceAt
                      simp only [Sem.run_bind, run_und hu', Result.andThen_ok, ex]
                      unfold Instr.slice
                      rw [str_len] at k1
                      simp [run_und hu', k1]
                    · rw [str_len] at k3 k6
                      rw [Str.of_eq, Str.sub_ofL _ _ _ k2 (by have := k6 rfl; simp at *; omega), Str.of_eq]
                      congr 1
                      simp [ByteArray.extract, ByteArray.copySlice, List.extract_eq_take_drop]
              case slice el =>
                cases c <;> try (cases hd; done)
                case nils =>
                  simp only [] at hd
                  cases hz : sizeT E el with
                  | none => rw [hz] at hd; cases hd
                  | some z =>
                    rw [hz] at hd
                    simp only [] at hd
                    cases hq : cut3 cl ch cm 0 0 with
                    | none => rw [hq] at hd; cases hd
                    | some r =>
                      obtain ⟨l, hh, m⟩ := r
                      rw [hq] at hd
                      cases hd
                      obtain ⟨k1, k2, k3, _, _, k4⟩ := cut3_ok (P := P) (w := w) (isSlice := true) o1 o2 o3 hno hq (Nat.le_refl 0)
                      obtain ⟨f, f1, f2⟩ := sizeT_some hE hz
                      have ex : e x = .slice none 0 0 := hcx
                      refine ⟨.slice none 0 0, ?_, rfl⟩
                      unfold Instr.sliceAt
                      simp only [Sem.run_bind, run_und hu', Result.andThen_ok, ex]
                      unfold Instr.slice
                      simp only [Sem.run_bind, run_und hu', Result.andThen_ok, k1, run_size f1, Sem.run_pure, Option.map_none, ite_self]
                      congr 2 <;> omega
                case sl b o n cap z =>
                  simp only [] at hd
                  cases hz : sizeT E el with
                  | none => rw [hz] at hd; cases hd
                  | some z' =>
                    rw [hz] at hd
                    simp only [] at hd
                    cases hzz : Nat.beq z' z with
                    | false => rw [hzz] at hd; cases hd
                    | true =>
                      rw [hzz] at hd
                      simp only [] at hd
                      have hzz' := Nat.eq_of_beq_eq_true hzz
                      subst hzz'
                      obtain ⟨f, f1, f2⟩ := sizeT_some hE hz
                      obtain ⟨p, ad, cp, hp, ex, hs⟩ := hcx
                      have hzp := hs.zpos
                      have main : ∀ l hh m, (Instr.sliceBounds true n cp lo' hi' mx').run P w = .ok (l, hh, m) w →
                          (Instr.sliceAt t (e x) lo' hi' mx').run P w = .ok (.slice (if m = l then some ad else some (ad.add (l * z'))) (hh - l) (m - l)) w := by
                        intro l hh m hb
                        unfold Instr.sliceAt
                        simp only [Sem.run_bind, run_und hu', Result.andThen_ok, ex]
                        unfold Instr.slice
                        simp only [Sem.run_bind, run_und hu', Result.andThen_ok, hb, run_size f1, Sem.run_pure, Option.map_some, f2]
                      unfold cutSome at hd
                      cases cap with
                      | some cc =>
                        simp only [] at hd
                        obtain ⟨l, hh, m, hcut, rfl⟩ := cutSl_some hd
                        obtain ⟨rfl, g2, rfl⟩ := hs.ex _ rfl
                        obtain ⟨k1, k2, k3, _, _, k4⟩ := cut3_ok (P := P) (w := w) (isSlice := true) o1 o2 o3 hno hcut hs.le
                        refine ⟨_, main l hh m k1, ?_⟩
                        have := cut_sl hp hzp k2 k3 k4 g2 hs.tot
                        rw [apply_ite some] at this
                        exact this
                      | none =>
                        simp only [] at hd
                        unfold cutOpen at hd
                        cases hro : rowOf look b with
                        | none => rw [hro] at hd; cases hd
                        | some r =>
                          rw [hro] at hd
                          simp only [] at hd
                          obtain ⟨ob, q2, q3⟩ := h b _ p (rowOf_some hro) rfl hp
                          obtain ⟨av, el', fz, _, hrow⟩ := q3
                          have hkn := hrow.kn
                          obtain ⟨g1, g2⟩ := hs.op rfl
                          have hsk := hs.kn
                          have hst := hs.tot
                          have hnK : n ≤ (r.n - o) / z' := by
                            rw [Nat.le_div_iff_mul_le hzp]; omega
                          have hKz : (r.n - o) / z' * z' ≤ r.n - o := Nat.div_mul_le_self _ _
                          have hKc : (r.n - o) / z' ≤ cp := by
                            have : (r.n - o) / z' * z' ≤ cp * z' := by omega
                            exact Nat.le_of_mul_le_mul_right this hzp
                          have hKz2 : (r.n - o) / z' * z' ≤ cp * z' := Nat.mul_le_mul_right z' hKc
                          have hdiv : Nat.div (Nat.sub r.n o) z' = (r.n - o) / z' := rfl
                          rw [hdiv] at hd
                          generalize (r.n - o) / z' = K at hd hnK hKz hKc hKz2
                          clear hdiv
                          cases cm with
                          | some km =>
                            simp only [] at hd
                            cases hb1 : Nat.ble 1 K with
                            | false => rw [hb1] at hd; cases hd
                            | true =>
                              rw [hb1] at hd
                              simp only [] at hd
                              have hK1 : 1 ≤ K := Nat.le_of_ble_eq_true hb1
                              obtain ⟨l, hh, m, hcut, rfl⟩ := cutSl_some hd
                              obtain ⟨m', hcut', hm', _⟩ := cut3_mono hcut hKc
                              have hmm := hm' (by simp)
                              subst hmm
                              obtain ⟨k1, k2, _, _, _, k4⟩ := cut3_ok (P := P) (w := w) (isSlice := true) o1 o2 o3 hno hcut' hs.le
                              obtain ⟨_, _, k3, _⟩ := cut3_ok (P := P) (w := w) (isSlice := true) o1 o2 o3 hno hcut hnK
                              have had := sl_ad hs (by omega)
                              subst had
                              refine ⟨_, main l hh m' k1, ?_⟩
                              have k3' : m' ≤ K := k3
                              have := cut_sl (o := o) hp hzp k2 k3' k4 (by omega) (by omega)
                              rw [apply_ite some] at this
                              exact this
                          | none =>
                            simp only [] at hd
                            cases hq : cut3 cl ch none n K with
                            | none => rw [hq] at hd; cases hd
                            | some q =>
                              obtain ⟨l, hh, m⟩ := q
                              rw [hq] at hd
                              simp only [Option.some.injEq] at hd
                              subst hd
                              obtain ⟨m', hcut', _, hm'⟩ := cut3_mono hq hKc
                              have hmm := hm' rfl
                              subst hmm
                              obtain ⟨k1, k2, _, _, _, k4⟩ := cut3_ok (P := P) (w := w) (isSlice := true) o1 o2 o3 hno hcut' hs.le
                              obtain ⟨_, _, k3, _, k5, k6⟩ := cut3_ok (P := P) (w := w) (isSlice := true) o1 o2 o3 hno hq hnK
                              have hmK : m = K := k5 rfl
                              have e2 : l * z' + (m' - l) * z' = m' * z' := by rw [← Nat.add_mul]; congr 1; omega
                              have e3 : l * z' + (hh - l) * z' = hh * z' := by rw [← Nat.add_mul]; congr 1; omega
                              have e4 : hh * z' ≤ m * z' := Nat.mul_le_mul_right z' k6
                              rw [hmK] at e4
                              refine ⟨_, main l hh m' k1, ?_⟩
                              refine ⟨p, if m' = l then ad else ad.add (l * z'), m' - l, hp, by split <;> rfl, ⟨hzp, ?_, (fun k hk => by cases hk), fun _ => ⟨?_, ?_⟩, ?_, ?_⟩⟩
                              · show hh - l ≤ m' - l
                                omega
                              · show p.kn ≤ o + l * z' + (m' - l) * z'
                                omega
                              · by_cases hml : m' = l
                                · right; omega
                                · left
                                  rw [if_neg hml, g2.resolve_right (by omega), add_at]
                                  show (⟨p.c, p.o + o + l * z', none⟩ : Addr) = ⟨p.c, p.o + (o + l * z'), none⟩
                                  rw [Nat.add_assoc]
                              · show p.o + (o + l * z') + (m' - l) * z' ≤ p.tot
                                omega
                              · show o + l * z' + (hh - l) * z' ≤ p.kn
                                omega
              case array n el =>
                cases c <;> try (cases hd; done)
                rename_i b o
                simp only [] at hd
                cases hz : sizeT E el with
                | none => rw [hz] at hd; cases hd
                | some z =>
                  rw [hz] at hd
                  simp only [] at hd
                  obtain ⟨p, hp, ex⟩ := hcx
                  obtain ⟨l, hh, m, k1, k2, k3⟩ := arr b o n el z p d hp hz hd
                  refine ⟨_, ?_, k3⟩
                  unfold Instr.sliceAt
                  simp only [Sem.run_bind, run_und hu', Result.andThen_ok, ex, Instr.sureAddr, Sem.run_pure, k1, k2]
              case pointer q =>
                cases c <;> try (cases hd; done)
                rename_i b o
                simp only [] at hd
                cases hq : undT E q with
                | none => rw [hq] at hd; cases hd
                | some tq =>
                  rw [hq] at hd
                  have hq' := (undT_some hE hq).1
                  cases tq <;> try (cases hd; done)
                  rename_i n el
                  simp only [] at hd
                  cases hz : sizeT E el with
                  | none => rw [hz] at hd; cases hd
                  | some z =>
                    rw [hz] at hd
                    simp only [] at hd
                    obtain ⟨p, hp, ex⟩ := hcx
                    obtain ⟨l, hh, m, k1, k2, k3⟩ := arr b o n el z p d hp hz hd
                    refine ⟨_, ?_, k3⟩
                    unfold Instr.sliceAt
                    simp only [Sem.run_bind, run_und hu', Result.andThen_ok, ex]
                    unfold Instr.slice
                    simp only [Sem.run_bind, run_und hu', run_und hq', Result.andThen_ok, asAddr, Sem.run_pure, k1, k2]

end
end Ev
