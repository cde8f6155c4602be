import Derived.Test.YtjmnhilkgjfllaaGreatDoorEvQ
import Derived.Lib.AppendZerosOnto
set_option linter.unusedVariables false
set_option linter.unusedSimpArgs false
namespace Ev
open Go

section
variable {P : Program} {w : World} {E : Env} {ρ : Mp} {a : A} {e : Operand → Value} {x y : Operand} {s s' : St}

theorem csOk {r : CS} {v : V} (h : retCS r = .ok v s') : ∃ c, r = .ok c s' ∧ v = vc c := by
  cases r with
  | no => cases h
  | ok c t => cases h; exact ⟨c, rfl, rfl⟩

theorem appendZ_ok (hE : EnvOk E P) (h : HRel ρ s.h.get s.nx w.heap) (hx : OpRel ρ a e x) (hy : OpRel ρ a e y) {ts : Array Nat} {ty : TypeId} {k1 : IntKind} (hk1 : undT E (ts.getD 1 0) = some (.int k1)) {v : V} (hr : aAppZ E a ts x y s = .ok v s') :
    ∃ u w' ρ', (Builtin.append_ ts ty #[e x, e y]).run P w = .ok u w' ∧ (Post ρ s w.heap ρ' s' w'.heap ∧ Same w w') ∧ VRel ρ' v u := by
  unfold aAppZ at hr
  cases ht1 : ts[1]? with
  | none => rw [ht1] at hr; cases hr
  | some tn =>
  rw [ht1] at hr
  simp only [] at hr
  cases h0 : ts[0]? with
  | none => rw [h0] at hr; cases hr
  | some t =>
    rw [h0] at hr
    simp only [] at hr
    cases hj : elemTI E t with
    | none => rw [hj] at hr; cases hr
    | some j =>
      rw [hj] at hr
      simp only [] at hr
      obtain ⟨el, f, g1, g2, g3, g4, g5, g6, g7, z, hz⟩ := elemTI_some hE hj
      have hzl := hE.tabz el j z g2 hz
      obtain ⟨f', q1, q2, _, _, _, _, q7⟩ := hE.tab el j g2
      rw [g3] at q1; cases q1
      obtain ⟨zv, hzv, z3⟩ := q7 z hz
      have z3 := (z3 ρ).2
      have hzs : zv.cells.size = j.size := by have := z3.length; simp at this; omega
      rw [hz] at hr
      simp only [] at hr
      cases h1 : opC a x with
      | none => rw [h1] at hr; cases hr
      | some cx =>
        rw [h1] at hr
        have hcx := toC_rel hx h1
        cases cx <;> (try simp only [] at hr) <;> try (cases hr; done)
        rename_i b o n cap zz
        cases cap with
        | none => cases hr
        | some c =>
          simp only [] at hr
          cases h2 : opC a y with
          | none => rw [h2] at hr; cases hr
          | some cy =>
            rw [h2] at hr
            have hcy := toC_rel hy h2
            cases cy <;> (try simp only [] at hr) <;> try (cases hr; done)
            rename_i kq m
            cases m with
            | negSucc _ => cases hr
            | ofNat m =>
              simp only [] at hr
              obtain ⟨cc, hc, rfl⟩ := csOk hr
              unfold appZeros at hc
              cases hb : and (and (Nat.beq zz j.size) (Nat.ble 1 m)) (and (!(Nat.ble (Nat.add n m) c)) (Nat.ble (Nat.mul (Nat.add n m) j.bytes) maxBytes)) with
              | false => rw [hb] at hc; cases hc
              | true =>
                rw [hb] at hc
                simp only [] at hc
                rw [Bool.and_eq_true, Bool.and_eq_true, Bool.and_eq_true, Bool.not_eq_true'] at hb
                obtain ⟨⟨hzz, hm1⟩, hroom, hby⟩ := hb
                have hzz := Nat.eq_of_beq_eq_true hzz
                subst hzz
                have hm1 : 1 ≤ m := Nat.le_of_ble_eq_true hm1
                have hby : (n + m) * j.bytes ≤ 140737488355328 := Nat.le_of_ble_eq_true hby
                have hroom : ¬ n + m ≤ c := fun hh => by have := Nat.ble_eq_true_of_le hh; rw [show Nat.ble (n + m) c = false from hroom] at this; cases this
                obtain ⟨p, ad, cp, hp, ex, hs⟩ := hcx
                have ey : e y = .int kq (Int.ofNat m) := hcy
                obtain ⟨rfl, _, rfl⟩ := hs.ex c rfl
                unfold appGrow at hc
                cases hold : readL s.h.get b o (Nat.mul n j.size) with
                | none => rw [hold] at hc; cases hc
                | some old =>
                  rw [hold] at hc
                  cases hc
                  obtain ⟨olds, r1, r2, _, r3⟩ := readL_rel h.sees hold hp
                  have hfo : (Builtin.firstCells f.size n (.slice (some ⟨p.c, p.o + o, none⟩) n cp)).run P w.drew = .ok olds.toArray w.drew := by
                    show (loadCells ⟨p.c, p.o + o, none⟩ (n * f.size)).run P w.drew = _
                    rw [g4]
                    have := run_loadCells_list (P := P) w.drew ⟨p.c, p.o + o, none⟩ olds (r3 w.drew rfl)
                    rw [r2] at this
                    exact this
                  have hut : P.underlying tn = some (.int k1) := by
                    rw [Array.getD_eq_getD_getElem?, ht1] at hk1
                    exact (undT_some hE hk1).1
                  have hfit := growslice_fits (by omega : cp < n + m) hby
                  have hbm : m * f.bytes ≤ 281474976710656 := by
                    rw [g5]
                    have := Nat.mul_le_mul_right j.bytes (Nat.le_add_left m n)
                    omega
                  have hn63 : n + m ≤ (n + m) * j.bytes := Nat.le_mul_of_pos_right _ (by omega)
                  have hrun := Lib.run_append_grow_zeros (P := P) w t tn ty el f zv kq k1 g1 hut g3 hzv (some ⟨p.c, p.o + o, none⟩) n cp olds hfo m hm1 (by omega) (by omega) (by omega) hbm (by rw [g5]; omega)
                  have hts2 : (Builtin.append_ ts ty #[e x, e y]).run P w = (Builtin.append_ #[t, tn] ty #[.slice (some ⟨p.c, p.o + o, none⟩) n cp, .int kq m]).run P w := by
                    rw [ex, ey]
                    unfold Builtin.append_
                    simp only [h0, ht1, List.getElem?_toArray, List.getElem?_cons_zero, List.getElem?_cons_succ]
                    rfl
                  have hcap : n + m ≤ grownCap w (n + m) cp el := by simp [grownCap, Question.cut]
                  have hrep : LRel ρ (rep m z) (Builtin.zeroCells zv.cells m).toList := rep_rel z3 (by omega) m (m * zv.cells.size) rfl
                  have hall := All2.append r1 hrep
                  obtain ⟨ρ', t1, t2⟩ := grow_ok (s := s) (w := w) (sh := 0) (anc := []) h hall (el := el) g6 (by have := hrep.length; simp [r2, size_zeroCells, hzs, Nat.add_mul]) hcap hzs (Nat.zero_le _)
                  refine ⟨_, _, ρ', hts2.trans hrun, ⟨?_, rfl, rfl⟩, t2⟩
                  have : (olds ++ (Builtin.zeroCells zv.cells m).toList).toArray = olds.toArray ++ Builtin.zeroCells zv.cells m := by simp
                  rw [this] at t1
                  exact t1

theorem append_ok (hE : EnvOk E P) (h : HRel ρ s.h.get s.nx w.heap) (hx : OpRel ρ a e x) (hy : OpRel ρ a e y) {ts : Array Nat} {ty : TypeId} {v : V} (hr : aAppend E a ts x y s = .ok v s') :
    ∃ u w' ρ', (Builtin.append_ ts ty #[e x, e y]).run P w = .ok u w' ∧ (Post ρ s w.heap ρ' s' w'.heap ∧ Same w w') ∧ VRel ρ' v u := by
  cases hint : undT E (ts.getD 1 0) with
  | none => unfold aAppend at hr; rw [hint] at hr; cases hr
  | some dint =>
  by_cases hisint : ∃ k1, dint = .int k1
  · obtain ⟨k1, rfl⟩ := hisint
    have hr3 : aAppZ E a ts x y s = .ok v s' := by
      unfold aAppend at hr
      rw [hint] at hr
      exact hr
    exact appendZ_ok hE h hx hy hint hr3
  have htx : ∀ tx, ts[1]? = some tx → (∃ q, P.underlying tx = some (.slice q)) ∨ P.underlying tx = some .string := by
    intro tx h1
    unfold aAppend at hr
    have hg : ts.getD 1 0 = tx := by rw [Array.getD_eq_getD_getElem?, h1]; rfl
    rw [hg] at hr
    cases hu : undT E tx with
    | none => rw [hu] at hr; cases hr
    | some d =>
      have hu' := (undT_some hE hu).1
      rw [hu] at hr
      have hd : d = dint := by rw [hg, hu] at hint; exact Option.some.inj hint
      subst hd
      cases d <;> simp only [] at hr <;> try (cases hr; done)
      · exact absurd ⟨_, rfl⟩ hisint
      · exact .inr hu'
      · exact .inl ⟨_, hu'⟩
  have hr2 : aApp E a ts x y s = .ok v s' := by
    unfold aAppend at hr
    rw [hint] at hr
    cases dint <;> simp only [] at hr <;> first | exact hr | (cases hr; done) | exact absurd ⟨_, rfl⟩ hisint
  clear hr
  unfold aApp at hr2
  cases h0 : ts[0]? with
  | none => rw [h0] at hr2; cases hr2
  | some t =>
    rw [h0] at hr2
    simp only [] at hr2
    cases h1 : opC a x with
    | none => rw [h1] at hr2; cases hr2
    | some cx =>
      rw [h1] at hr2
      simp only [] at hr2
      cases h2 : opC a y with
      | none => rw [h2] at hr2; cases hr2
      | some cy =>
        rw [h2] at hr2
        simp only [] at hr2
        obtain ⟨c, hc, rfl⟩ := csOk hr2
        clear hr2
        have hcx := toC_rel hx h1
        have hcy := toC_rel hy h2
        unfold append at hc
        cases hj : elemTI E t with
        | none => rw [hj] at hc; cases hc
        | some j =>
          rw [hj] at hc
          simp only [] at hc
          obtain ⟨el, f, g1, g2, g3, g4, g5, g6, g7, z, hz⟩ := elemTI_some hE hj
          have hzl := hE.tabz el j z g2 hz
          obtain ⟨f', k1, k2, _, _, _, _, k7⟩ := hE.tab el j g2
          rw [g3] at k1; cases k1
          obtain ⟨zv, hzv, z3⟩ := k7 z hz
          have z3 := (z3 ρ).2
          have hzs : zv.cells.size = j.size := by have := z3.length; simp at this; omega
          cases hn : newCells s.h.get j.size cy with
          | none => rw [hn] at hc; cases hc
          | some mn =>
            obtain ⟨m, new⟩ := mn
            rw [hn] at hc
            simp only [] at hc
            obtain ⟨hlen, news, n1, n2, n3⟩ := newCells_ok (P := P) h.sees hcy g6 hn
            have hnl := n1.length
            cases m with
            | zero =>
              have hn0 : news = [] := by have : news.length = 0 := by rw [n2]; exact Nat.zero_mul _
                                         simpa using this
              subst hn0
              have hf := n3 w rfl
              replace hc : appZ cx s = .ok c s' := hc
              unfold appZ at hc
              rw [← g4] at hf
              cases cx <;> simp only [] at hc <;> try (cases hc; done)
              case nils =>
                cases hc
                have ex : e x = .slice none 0 0 := hcx
                rw [ex]
                exact ⟨_, w, ρ, run_app_nil0 h0 g1 g3 htx (hlen w) hf, ⟨Post.refl h, Same.refl w⟩, rfl⟩
              case sl b o n cap z' =>
                cases hc
                obtain ⟨p, ad, cp, hp, ex, hs⟩ := hcx
                rw [ex]
                exact ⟨_, w, ρ, run_app_room h0 g1 g3 htx (hlen w) hf (by have := hs.le; omega) ad rfl, ⟨Post.refl h, Same.refl w⟩, ⟨p, ad, cp, hp, rfl, hs⟩⟩
            | succ m =>
              replace hc : appNz j (m + 1) new cx s = .ok c s' := hc
              unfold appNz at hc
              cases cx <;> simp only [] at hc <;> try (cases hc; done)
              case nils =>
                have ex : e x = .slice none 0 0 := hcx
                rw [ex]
                cases hb : Nat.ble (Nat.mul (m + 1) j.bytes) maxBytes with
                | false => rw [hb] at hc; cases hc
                | true =>
                  rw [hb] at hc
                  cases hc
                  have hby : (m + 1) * j.bytes ≤ 140737488355328 := Nat.le_of_ble_eq_true hb
                  have hrun := run_app_grow (w := w) (ty := ty) (sLen := 0) (sCap := 0) (olds := []) h0 g1 g3 hzv htx (hlen w) (by rw [g4]; exact n3 w.drew rfl) none rfl (by omega) (by rw [g5, Nat.zero_add]; exact hby) (by omega)
                  rw [Nat.zero_add, List.nil_append] at hrun
                  have hcap : m + 1 ≤ grownCap w (m + 1) 0 el := by simp [grownCap, Question.cut]
                  obtain ⟨ρ', q1, q2⟩ := grow_ok (s := s) (w := w) (sh := 0) (anc := []) h n1 (el := el) g6 n2 hcap hzs (Nat.zero_le _)
                  exact ⟨_, _, ρ', hrun, ⟨q1, rfl, rfl⟩, q2⟩
              case sl b o n cap z' =>
                obtain ⟨p, ad, cp, hp, ex, hs⟩ := hcx
                rw [ex]
                unfold appSl at hc
                cases hb : and (Nat.beq z' j.size) (Nat.ble (Nat.mul (Nat.add n (m + 1)) j.bytes) maxBytes) with
                | false => rw [hb] at hc; cases hc
                | true =>
                  rw [hb] at hc
                  simp only [] at hc
                  rw [Bool.and_eq_true] at hb
                  have hzz := Nat.eq_of_beq_eq_true hb.1
                  subst hzz
                  have hby : (n + (m + 1)) * j.bytes ≤ 140737488355328 := Nat.le_of_ble_eq_true hb.2
                  have hnm : (n + (m + 1)) * j.size = n * j.size + (m + 1) * j.size := Nat.add_mul _ _ _
                  have hst := hs.tot
                  have hsk := hs.kn
                  -- in place
                  have room : ∀ w', cp ≥ n + (m + 1) → (storeCells ⟨p.c, p.o + o + n * j.size, none⟩ news).run P w = .ok () w' →
                      (Builtin.append_ ts ty #[.slice (some ad) n cp, e y]).run P w = .ok (.slice (some ⟨p.c, p.o + o, none⟩) (n + (m + 1)) cp) w' := by
                    intro w' hcp hst
                    have had := sl_ad hs (by omega)
                    subst had
                    exact run_app_room h0 g1 g3 htx (hlen w) (by rw [g4]; exact n3 w rfl) hcp _ (by rw [g4, add_at]; exact hst)
                  have hmz : (m + 1) * j.size ≥ 1 := Nat.mul_pos (by omega) (by omega)
                  -- grown
                  have grown : ∀ lo, readL s.h.get b o (n * j.size) = some lo → cp < n + (m + 1) → ∀ (s1 : St), Post ρ s w.heap ρ s1 w.heap → s1.nx = s.nx → ∀ sh anc, sh ≤ n * j.size → ∃ u w' ρ',
                      (Builtin.append_ ts ty #[.slice (some ad) n cp, e y]).run P w = .ok u w' ∧ (Post ρ s w.heap ρ' (s1.new (.row { mkRow (lo ++ new) with sh := sh, anc := anc })) w'.heap ∧ Same w w') ∧ VRel ρ' (vc (.sl s.nx 0 (n + (m + 1)) none j.size)) u := by
                    intro lo hlo hcp s1 hp1 hnx sh anc hsh
                    obtain ⟨olds, q1, q2, _, q3⟩ := readL_rel h.sees hlo hp
                    have hfo : (Builtin.firstCells f.size n (.slice (some ad) n cp)).run P w.drew = .ok olds.toArray w.drew := by
                      show (loadCells ad (n * f.size)).run P w.drew = _
                      rw [g4]
                      have := run_loadCells_list (P := P) w.drew ⟨p.c, p.o + o, none⟩ olds (q3 w.drew rfl)
                      rw [q2] at this
                      by_cases hn0 : n = 0
                      · subst hn0
                        have : olds = [] := by have : olds.length = 0 := by rw [q2]; exact Nat.zero_mul _
                                               simpa using this
                        subst this
                        rw [Nat.zero_mul]; rfl
                      · rw [sl_ad hs (by have := hs.le; omega)]; exact this
                    have hrun := run_app_grow (w := w) (ty := ty) (olds := olds) h0 g1 g3 hzv htx (hlen w) (by rw [g4]; exact n3 w.drew rfl) (some ad) hfo hcp (by rw [g5]; exact hby) (by omega)
                    have hcap : n + (m + 1) ≤ grownCap w (n + (m + 1)) cp el := by simp [grownCap, Question.cut]
                    obtain ⟨ρ', r1, r2⟩ := grow_ok (s := s1) (w := w) (sh := sh) (anc := anc) hp1.rel (All2.append q1 n1) (el := el) g6 (by simp; omega) hcap hzs (by omega)
                    exact ⟨_, _, ρ', hrun, ⟨hp1.trans r1, rfl, rfl⟩, by rw [hnx] at r2; exact r2⟩
                  cases cap with
                  | some c' =>
                    simp only [] at hc
                    obtain ⟨rfl, hk, rfl⟩ := hs.ex _ rfl
                    cases hle : Nat.ble (Nat.add n (m + 1)) cp with
                    | true =>
                      rw [hle] at hc
                      simp only [] at hc
                      have hle' : n + (m + 1) ≤ cp := Nat.le_of_ble_eq_true hle
                      cases hw : writeL s b (Nat.add o (Nat.mul n j.size)) new with
                      | none => rw [hw] at hc; cases hc
                      | some s1 =>
                        rw [hw] at hc
                        cases hc
                        obtain ⟨w', q1, q2⟩ := run_writeL (P := P) h hw hp n1
                        have q1' : (storeCells ⟨p.c, p.o + o + n * j.size, none⟩ news).run P w = .ok () w' := by rw [Nat.add_assoc]; exact q1
                        have e1 : (n + (m + 1)) * j.size ≤ cp * j.size := Nat.mul_le_mul_right _ hle'
                        refine ⟨_, w', ρ, room w' hle' q1', q2, ⟨p, _, _, hp, rfl, ⟨hs.zpos, hle', hs.ex, hs.op, hs.tot, ?_⟩⟩⟩
                        show o + (n + (m + 1)) * j.size ≤ p.kn
                        omega
                    | false =>
                      rw [hle] at hc
                      simp only [] at hc
                      have hle' : cp < n + (m + 1) := by
                        rcases Nat.lt_or_ge cp (n + (m + 1)) with h | h
                        · exact h
                        · have : Nat.ble (Nat.add n (m + 1)) cp = true := Nat.ble_eq_true_of_le h
                          rw [this] at hle; cases hle
                      unfold appGrow at hc
                      cases hlo : readL s.h.get b o (Nat.mul n j.size) with
                      | none => rw [hlo] at hc; cases hc
                      | some lo =>
                        rw [hlo] at hc
                        cases hc
                        exact grown lo hlo hle' s (Post.refl h) rfl 0 [] (Nat.zero_le _)
                  | none =>
                    simp only [] at hc
                    unfold appOpen at hc
                    cases hro : rowOf s.h.get b with
                    | none => rw [hro] at hc; cases hc
                    | some r =>
                      rw [hro] at hc
                      simp only [] at hc
                      have hrow := rowOf_some hro
                      obtain ⟨ob, _, arr, ty', fz, _, hrr⟩ := h.sees b _ p hrow rfl hp
                      have hkn := hrr.kn
                      obtain ⟨o1, o2⟩ := hs.op rfl
                      obtain ⟨q, rn, leaf, sh, anc⟩ := r
                      unfold appOpenR at hc
                      simp only [] at hc hkn
                      cases hle : Nat.ble (Nat.add o (Nat.mul (Nat.add n (m + 1)) j.size)) rn with
                      | true =>
                        rw [hle] at hc
                        simp only [] at hc
                        have hle' : o + (n + (m + 1)) * j.size ≤ rn := Nat.le_of_ble_eq_true hle
                        cases hw : writeL s b (Nat.add o (Nat.mul n j.size)) new with
                        | none => rw [hw] at hc; cases hc
                        | some s1 =>
                          rw [hw] at hc
                          cases hc
                          obtain ⟨w', q1, q2⟩ := run_writeL (P := P) h hw hp n1
                          have q1' : (storeCells ⟨p.c, p.o + o + n * j.size, none⟩ news).run P w = .ok () w' := by rw [Nat.add_assoc]; exact q1
                          have hcp : n + (m + 1) ≤ cp := by
                            have : (n + (m + 1)) * j.size ≤ cp * j.size := by omega
                            exact Nat.le_of_mul_le_mul_right this (by omega)
                          have had := sl_ad hs (by omega)
                          refine ⟨_, w', ρ, room w' hcp q1', q2, ⟨p, _, _, hp, rfl, ⟨hs.zpos, hcp, (fun k hk => by cases hk), fun hh => ⟨o1, .inl rfl⟩, hs.tot, ?_⟩⟩⟩
                          show o + (n + (m + 1)) * j.size ≤ p.kn
                          omega
                      | false =>
                        rw [hle] at hc
                        simp only [] at hc
                        cases hbb : and leaf (Nat.beq (Nat.add o (Nat.mul n j.size)) rn) with
                        | false => rw [hbb] at hc; cases hc
                        | true =>
                          rw [hbb] at hc
                          simp only [] at hc
                          rw [Bool.and_eq_true] at hbb
                          obtain ⟨hlf, hon⟩ := hbb
                          have hon : o + n * j.size = rn := Nat.eq_of_beq_eq_true hon
                          subst hlf
                          cases hlo : q.getL (Nat.mul n j.size) o with
                          | none => rw [hlo] at hc; cases hc
                          | some lo =>
                            rw [hlo] at hc
                            cases hc
                            by_cases hcp : n + (m + 1) ≤ cp
                            · have e1 : (n + (m + 1)) * j.size ≤ cp * j.size := Nat.mul_le_mul_right _ hcp
                              obtain ⟨w', q1, q2⟩ := extend_ok (P := P) h (m := m + 1) hrow rfl hp hon hlo n1 n2 (by omega)
                              refine ⟨_, w', _, room w' hcp q1, q2, ?_⟩
                              refine ⟨⟨p.c, p.o + o, p.tot, (n + (m + 1)) * j.size⟩, _, cp, if_pos rfl, rfl, ⟨hs.zpos, hcp, fun k hk => (by cases hk), fun _ => ⟨?_, .inl rfl⟩, ?_, ?_⟩⟩
                              · show (n + (m + 1)) * j.size ≤ 0 + cp * j.size; omega
                              · show p.o + o + 0 + cp * j.size ≤ p.tot; omega
                              · show 0 + (n + (m + 1)) * j.size ≤ (n + (m + 1)) * j.size; omega
                            · have hlo' : readL s.h.get b o (n * j.size) = some lo := by
                                unfold readL
                                rw [hro]
                                show readR _ o (n * j.size) = _
                                unfold readR
                                simp only []
                                rw [Nat.ble_eq_true_of_le (show Nat.add o (n * j.size) ≤ rn from Nat.le_of_eq hon)]
                                exact hlo
                              exact grown lo hlo' (by omega) _ (Post.seal h hrow) rfl _ _ (Nat.le_refl _)

end
end Ev
