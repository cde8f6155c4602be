import Derived.Test.YtjmnhilkgjfllaaGreatDoorEvZk
namespace Ev
open Go

theorem insFind_some {z n i b : Nat} {l x : List C} {s s' : St} {v : V} : ∀ (ms : List (Nat × Nat × List C × List C × List C)), insFind z n i b l x s ms = .ok v s' →
    ∃ r, (n, i, l, x, r) ∈ ms ∧ v = vc (.sl s.nx 0 (n + 1) none z) ∧ s' = St.new ⟨s.h.set b .dead, s.nx⟩ (.row (row0 r)) := by
  intro ms
  induction ms with
  | nil => intro h; cases h
  | cons m ms ih =>
    intro h
    obtain ⟨n', i', l', x', r⟩ := m
    simp only [insFind] at h
    cases hb : and (and (Nat.beq n n') (Nat.beq i i')) (and (sameL l l') (sameL x x')) with
    | true =>
      rw [hb] at h
      cases h
      rw [Bool.and_eq_true, Bool.and_eq_true, Bool.and_eq_true] at hb
      obtain ⟨⟨h1, h2⟩, h3, h4⟩ := hb
      have h1 := Nat.eq_of_beq_eq_true h1
      have h2 := Nat.eq_of_beq_eq_true h2
      have h3 := sameL_eq h3
      have h4 := sameL_eq h4
      subst h1 h2 h3 h4
      exact ⟨r, by simp, rfl, rfl⟩
    | false =>
      rw [hb] at h
      obtain ⟨r', h1, h2⟩ := ih h
      exact ⟨r', List.mem_cons_of_mem _ h1, h2⟩

/-- the two ways of putting one in: no room, or room -/
noncomputable def insRuns (E : Env) (lf n f ng z : Nat) (m : Nat × Nat × List C × List C × List C) : Bool :=
  and (memoRun (runF E lf n f [.c (.sl ng 0 m.1 (some m.1) z), .c (.int .i64 (Int.ofNat m.2.1)), .c (.sl (Nat.succ ng) 0 1 (some 1) z)] (stIns ng (Nat.mul m.1 z) m.2.2.1 m.2.2.2.1)) (Nat.succ m.1) z m.2.2.2.2)
    (memoRun (runF E lf n f [.c (.sl ng 0 m.1 none z), .c (.int .i64 (Int.ofNat m.2.1)), .c (.sl (Nat.succ ng) 0 1 (some 1) z)] (stIns ng (Nat.mul (Nat.succ m.1) z) m.2.2.1 m.2.2.2.1)) (Nat.succ m.1) z m.2.2.2.2)

def rhoI (ng : Nat) (ρ : Mp) (p0 p1 : Place) : Mp := fun g => if g < ng then ρ g else if g = ng then some p0 else if g = ng + 1 then some p1 else none
theorem rhoI_lt {ng : Nat} {ρ : Mp} {p0 p1 : Place} {g : Nat} (h : g < ng) : rhoI ng ρ p0 p1 g = ρ g := if_pos h
theorem rhoI_0 {ng : Nat} {ρ : Mp} {p0 p1 : Place} : rhoI ng ρ p0 p1 ng = some p0 := by unfold rhoI; rw [if_neg (Nat.lt_irrefl _), if_pos rfl]
theorem rhoI_1 {ng : Nat} {ρ : Mp} {p0 p1 : Place} : rhoI ng ρ p0 p1 (ng + 1) = some p1 := by unfold rhoI; rw [if_neg (by omega), if_neg (by omega), if_pos rfl]
theorem rhoI_dom {ng : Nat} {ρ : Mp} {p0 p1 : Place} {g : Nat} {q : Place} (h : rhoI ng ρ p0 p1 g = some q) : g < ng + 2 := by
  unfold rhoI at h
  split at h
  · omega
  · split at h
    · omega
    · split at h
      · omega
      · cases h

theorem stIns_get {ng rn : Nat} {l x : List C} {b : Nat} {y : Blk} (h : (stIns ng rn l x).h.get b = some y) :
    (b = ng ∧ y = .row ⟨T.ofL l, rn, true, 0, []⟩) ∨ (b = ng + 1 ∧ y = .row (row0 x)) := by
  have h : (((T.nil : T Blk).set (Nat.succ ng) (.row (row0 x))).set ng (.row ⟨T.ofL l, rn, true, 0, []⟩)).get b = some y := h
  rw [T.get_set] at h
  split at h
  · rename_i e; cases h; exact .inl ⟨e, rfl⟩
  · rw [T.get_set] at h
    split at h
    · rename_i e; cases h; exact .inr ⟨e, rfl⟩
    · cases h

theorem memoRun_some {r : VS} {n z : Nat} {cells : List C} (h : memoRun r n z cells = true) :
    ∃ b o cap s1 rw, r = .ok (.w (.c (.sl b o n cap z))) s1 ∧ s1.h.get b = some (.row rw) ∧ rw.leaf = true ∧ readL s1.h.get b o (n * z) = some cells := by
  unfold memoRun at h
  split at h
  · rename_i b o n' cap z' s1
    cases hrow : rowOf s1.h.get b with
    | none => rw [hrow] at h; cases h
    | some rw' =>
      rw [hrow] at h
      simp only [] at h
      cases hc : and rw'.leaf (and (Nat.beq n' n) (Nat.beq z' z)) with
      | false => rw [hc] at h; cases h
      | true =>
        rw [hc] at h
        simp only [] at h
        rw [Bool.and_eq_true, Bool.and_eq_true] at hc
        obtain ⟨h1, h2, h3⟩ := hc
        have h2 := Nat.eq_of_beq_eq_true h2
        have h3 := Nat.eq_of_beq_eq_true h3
        subst h2 h3
        cases hl : readL s1.h.get b o (Nat.mul n' z') with
        | none => rw [hl] at h; cases h
        | some l =>
          rw [hl] at h
          have := sameL_eq h
          subst this
          exact ⟨b, o, cap, s1, rw', rfl, rowOf_look hrow, h1, hl⟩
  · cases h

section
variable {P : Program} {kps : List (Nat × Nat)} {exts : List (Nat × Ext)}

theorem ext_ins (hany : P.follows .mixedOrders = true) (ht : typesOk P = true) (hk : kps.all (fun p => fnOk P p.1) = true) (hx : ∀ p ∈ exts, ExtOne P P.globals.size p.1 p.2) {lf n f : Nat} (z : Nat)
    (hf : (pairT exts .nil).get f = none) (ms : List (Nat × Nat × List C × List C × List C))
    (hlit : ms.all (fun m => and (Nat.ble 1 m.1) (and (m.2.2.1.all plainC) (and (m.2.2.2.1.all plainC) (m.2.2.2.2.all plainC)))) = true)
    (hr : ∀ m ∈ ms, insRuns (envOf P exts kps) lf (n + 1) f P.globals.size z m = true) : ExtOne P P.globals.size f (.ins ms z) := by
  intro args s v s' ρ w vals h hg hr' hv
  left
  have hr' : extIns z ms args s = .ok v s' := hr'
  obtain ⟨vl⟩ := vals
  unfold extIns at hr'
  split at hr'
  · rename_i b o k z1 i b' o' z2 hxx
    cases hrow : rowOf s.h.get b with
    | none => rw [hrow] at hr'; cases hr'
    | some r =>
      obtain ⟨q, rn, leaf, sh, anc⟩ := r
      rw [hrow] at hr'
      simp only [] at hr'
      cases anc with
      | cons _ _ => cases hr'
      | nil =>
        simp only [] at hr'
        cases hc : and leaf (and (!(Nat.beq b b')) (and (Nat.beq z1 z) (Nat.beq z2 z))) with
        | false => rw [hc] at hr'; cases hr'
        | true =>
          rw [hc] at hr'
          simp only [] at hr'
          rw [Bool.and_eq_true, Bool.and_eq_true, Bool.and_eq_true, Bool.not_eq_true'] at hc
          obtain ⟨rfl, hne, hz1, hz2⟩ := hc
          have hz1 := Nat.eq_of_beq_eq_true hz1
          have hz2 := Nat.eq_of_beq_eq_true hz2
          subst z1
          subst z2
          have hbne : b' ≠ b := by intro e; subst e; simp at hne
          cases hl : readL s.h.get b o (Nat.mul k z) with
          | none => rw [hl] at hr'; cases hr'
          | some l =>
            rw [hl] at hr'
            simp only [] at hr'
            cases hxl : readL s.h.get b' o' z with
            | none => rw [hxl] at hr'; cases hr'
            | some x =>
              rw [hxl] at hr'
              simp only [] at hr'
              obtain ⟨cells, hm, rfl, rfl⟩ := insFind_some ms hr'
              have hlits := List.all_eq_true.1 hlit _ hm
              rw [Bool.and_eq_true, Bool.and_eq_true, Bool.and_eq_true] at hlits
              obtain ⟨hk1, hpl, hpx, hpr⟩ := hlits
              have hk1 := Nat.le_of_ble_eq_true hk1
              simp only at hk1 hpl hpx hpr
              have hruns := hr _ hm
              unfold insRuns at hruns
              rw [Bool.and_eq_true] at hruns
              simp only at hruns
              cases hv with
              | cons g1 g2 =>
                cases g2 with
                | cons g3 g4 =>
                  cases g4 with
                  | cons g5 g6 =>
                    cases g6
                    obtain ⟨p, ad, cp, hp, rfl, hs⟩ := g1
                    obtain ⟨p', ad', cp', hp', rfl, hs'⟩ := g5
                    have g3 : _ = Value.int .i64 (Int.ofNat i) := g3
                    subst g3
                    have hl1 := rowOf_look hrow
                    obtain ⟨r', hl2, hr2, hr3⟩ := readL_some hxl
                    obtain ⟨r1, hl1', hr4, hr5⟩ := readL_some hl
                    rw [hl1] at hl1'; cases hl1'
                    obtain ⟨p0, ob, e1, e2, arr, ty, fz, rfl, hrw⟩ := h.blk b _ hl1 rfl
                    rw [hp] at e1; cases e1
                    obtain ⟨p0', ob', e1', e2', arr', ty', fz', rfl, hrw'⟩ := h.blk b' _ hl2 rfl
                    rw [hp'] at e1'; cases e1'
                    have hal := h.alone hl1 rfl rfl hp
                    have hapart := hal b' _ p' hl2 rfl hbne hp'
                    have hcp' := (hs'.ex 1 rfl).1
                    have had' := (hs'.ex 1 rfl).2.2
                    have had : ad = ⟨p.c, p.o + o, none⟩ := by
                      rcases (hs.op rfl).2 with g | g
                      · exact g
                      · have := hs.le; omega
                    subst had had' hcp'
                    obtain ⟨vs, k1, k2, k3⟩ := getL_rel hrw hr4 hr5
                    obtain ⟨vx, x1, x2, x3⟩ := getL_rel hrw' hr2 hr3
                    have hlen : l.length = k * z := by rw [k1.length, k2]; rfl
                    have hlenx : x.length = z := by rw [x1.length, x2]
                    have htot := hrw.tot
                    have htot' := hrw'.tot
                    have hkn := hrw.kn
                    have hkn' := hrw'.kn
                    have hle := hrw.le
                    have hle' := hrw'.le
                    have hst := hs.tot
                    have hsle := hs.le
                    have hzp := hs.zpos
                    have hr4 : o + k * z ≤ rn := hr4
                    have hr2 : o' + z ≤ r'.n := hr2
                    have hkz : k * z ≤ cp * z := Nat.mul_le_mul_right z hsle
                    -- the small state, and what is known of its first row's end
                    have small : ∀ e, k * z ≤ e → e ≤ cp * z → HRel (rhoI P.globals.size ρ ⟨p.c, p.o + o, p.tot, e⟩ ⟨p'.c, p'.o + o', p'.tot, z⟩)
                        (stIns P.globals.size e l x).h.get (stIns P.globals.size e l x).nx w.heap := by
                      intro e he1 he2
                      refine ⟨?_, ?_, ?_⟩
                      · intro c q' hq
                        exact rhoI_dom hq
                      · intro c y hy _
                        rcases stIns_get hy with ⟨rfl, rfl⟩ | ⟨rfl, rfl⟩
                        · refine ⟨⟨p.c, p.o + o, p.tot, e⟩, _, rhoI_0, e2, arr, ty, fz, rfl, ⟨htot, rfl, ?_, Nat.zero_le _, ?_, ?_, ?_⟩⟩
                          · show p.o + o + e ≤ p.tot; omega
                          · intro j y hj hy
                            have hy' : (T.ofL l).get j = some y := hy
                            rw [T.get_ofL] at hy'
                            have hjl := (List.getElem?_eq_some_iff.1 hy').1
                            obtain ⟨u, y1, y2⟩ := k1.get hy'
                            refine ⟨u, ?_, plainC_rel (List.all_eq_true.1 hpl y (List.mem_of_getElem? hy')) y2⟩
                            have := k3 j (by show j < k * z; omega)
                            simp only
                            rw [this]; exact y1
                          · intro _ j h1 h2
                            exact hrw.free rfl j (by have : p.o + o ≤ j := h1; omega) h2
                          · intro _ _
                            exact hrw.mark rfl rfl
                        · refine ⟨⟨p'.c, p'.o + o', p'.tot, z⟩, _, rhoI_1, e2', arr', ty', fz', rfl, ⟨htot', ?_, ?_, Nat.zero_le _, ?_, (fun hh => by cases hh), (fun hh => by cases hh)⟩⟩
                          · show lenA x 0 = z
                            rw [lenA_zero, hlenx]
                          · show p'.o + o' + lenA x 0 ≤ p'.tot
                            rw [lenA_zero, hlenx]; omega
                          · intro j y hj hy
                            have hy' : (T.ofL x).get j = some y := hy
                            rw [T.get_ofL] at hy'
                            have hjl := (List.getElem?_eq_some_iff.1 hy').1
                            obtain ⟨u, y1, y2⟩ := x1.get hy'
                            refine ⟨u, ?_, plainC_rel (List.all_eq_true.1 hpx y (List.mem_of_getElem? hy')) y2⟩
                            have := x3 j (by omega)
                            simp only
                            rw [this]; exact y1
                      · intro c y c' y' q1 q2 hy hw hy' ha hcc hq1 hq2 hcq
                        rcases stIns_get hy with ⟨rfl, rfl⟩ | ⟨rfl, rfl⟩
                        · rcases stIns_get hy' with ⟨rfl, rfl⟩ | ⟨rfl, rfl⟩
                          · exact absurd rfl hcc
                          · rw [rhoI_0] at hq1
                            rw [rhoI_1] at hq2
                            cases hq1
                            cases hq2
                            exact absurd hcq.symm hapart
                        · cases hw
                    have hgok : ∀ e, GOk P.globals.size (rhoI P.globals.size ρ ⟨p.c, p.o + o, p.tot, e⟩ ⟨p'.c, p'.o + o', p'.tot, z⟩) := fun e g hlt => by
                      obtain ⟨pp, q1, q2⟩ := hg g hlt
                      exact ⟨pp, by rw [rhoI_lt hlt]; exact q1, q2⟩
                    -- behind either way
                    have fin : ∀ e, (callFunc f #[.slice (some ⟨p.c, p.o + o, none⟩) k cp, .int .i64 (Int.ofNat i), .slice (some ⟨p'.c, p'.o + o', none⟩) 1 1]).run P w = .ok (.enter f #[.slice (some ⟨p.c, p.o + o, none⟩) k cp, .int .i64 (Int.ofNat i), .slice (some ⟨p'.c, p'.o + o', none⟩) 1 1]) w ∧
                        Calls P f #[.slice (some ⟨p.c, p.o + o, none⟩) k cp, .int .i64 (Int.ofNat i), .slice (some ⟨p'.c, p'.o + o', none⟩) 1 1] w (fun e' w' => ∃ u, e' = .returned u ∧ ∃ bR oR cap s1 rwR, Done (rhoI P.globals.size ρ ⟨p.c, p.o + o, p.tot, e⟩ ⟨p'.c, p'.o + o', p'.tot, z⟩)
                          (stIns P.globals.size e l x) w (.w (.c (.sl bR oR (k + 1) cap z))) s1 u w' ∧ s1.h.get bR = some (.row rwR) ∧ rwR.leaf = true ∧ readL s1.h.get bR oR ((k + 1) * z) = some cells) →
                        (callFunc f #[.slice (some ⟨p.c, p.o + o, none⟩) k cp, .int .i64 (Int.ofNat i), .slice (some ⟨p'.c, p'.o + o', none⟩) 1 1]).run P w = .ok (.enter f #[.slice (some ⟨p.c, p.o + o, none⟩) k cp, .int .i64 (Int.ofNat i), .slice (some ⟨p'.c, p'.o + o', none⟩) 1 1]) w ∧
                        Calls P f #[.slice (some ⟨p.c, p.o + o, none⟩) k cp, .int .i64 (Int.ofNat i), .slice (some ⟨p'.c, p'.o + o', none⟩) 1 1] w (fun e' w' => ∃ u, e' = .returned u ∧ Done ρ s w (vc (.sl s.nx 0 (k + 1) none z)) (St.new ⟨s.h.set b .dead, s.nx⟩ (.row (row0 cells))) u w') := by
                      intro e hh
                      refine ⟨hh.1, Calls.mono hh.2 ?_⟩
                      rintro e' w' ⟨u, rfl, bR, oR, cap, s1, rwR, ⟨ρ1, ⟨hpst, hsm⟩, hu⟩, hbR, hleafR, hlR⟩
                      have hkept : ∀ c, c < w.heap.size → c ≠ p.c → w'.heap[c]? = w.heap[c]? := fun c hc hcp => hpst.frame c hc fun c' y q' hy hw hq => by
                        rcases stIns_get hy with ⟨rfl, rfl⟩ | ⟨rfl, rfl⟩
                        · rw [rhoI_0] at hq
                          cases hq
                          exact fun e => hcp e.symm
                        · cases hw
                      obtain ⟨p2, ad2, cp2, hpb, rfl, hs2⟩ := hu
                      obtain ⟨r'', q1, q2, q3⟩ := readL_some hlR
                      rw [hbR] at q1; cases q1
                      obtain ⟨p3, ob3, u1, u2, arr3, ty3, fz3, rfl, hrow3⟩ := hpst.rel.blk bR _ hbR rfl
                      rw [hpb] at u1; cases u1
                      obtain ⟨vs3, v1, v2, v3⟩ := getL_rel hrow3 q2 q3
                      have hlen3 : cells.length = (k + 1) * z := by rw [v1.length, v2]
                      have hplace : w.heap.size ≤ p2.c ∨ p2.c = p.c := by
                        rcases Nat.lt_or_ge p2.c w.heap.size with g | g
                        · right
                          obtain ⟨b0, y0, p0, y1, y2, y3, y4⟩ := hpst.wrs bR _ p2 hbR hleafR hpb g
                          rcases stIns_get y1 with ⟨rfl, rfl⟩ | ⟨rfl, rfl⟩
                          · rw [rhoI_0] at y3
                            cases y3
                            exact y4.symm
                          · cases y2
                        · exact .inl g
                      have htot3 := hrow3.tot
                      have hkn3 := hrow3.kn
                      have hle3 := hrow3.le
                      have hst3 := hs2.tot
                      have hnone : ρ s.nx = none := h.fresh (Nat.le_refl _)
                      have hbs : b < s.nx := h.dom b p hp
                      obtain ⟨pn, hpn⟩ : ∃ pn : Place, pn = ⟨p2.c, p2.o + oR, p2.tot, (k + 1) * z⟩ := ⟨_, rfl⟩
                      have hlemp : ρ.le (ρ.put s.nx pn) := Mp.le_put hnone
                      have hsz := hpst.sz
                      obtain ⟨hh0, nx0⟩ := s
                      have look : ∀ c, (St.new ⟨hh0.set b .dead, nx0⟩ (.row (row0 cells))).h.get c = if c = nx0 then some (.row (row0 cells)) else if c = b then some .dead else hh0.get c := by
                        intro c
                        show ((hh0.set b .dead).set nx0 (.row (row0 cells))).get c = _
                        rw [T.get_set, T.get_set]
                      have hput : ∀ c, c ≠ nx0 → (ρ.put nx0 pn) c = ρ c := fun c hc => by rw [Mp.put, if_neg hc]
                      have hpnew : (ρ.put nx0 pn) nx0 = some pn := by rw [Mp.put, if_pos rfl]
                      have hlt : ∀ c y q', hh0.get c = some y → alive y = true → ρ c = some q' → q'.c < w.heap.size := by
                        intro c y q' hy ha hq
                        obtain ⟨q2', o2', t1, t2, _⟩ := h.blk c y hy ha
                        rw [hq] at t1; cases t1
                        exact (Array.getElem?_eq_some_iff.1 t2).1
                      have hrown : (row0 cells).n = (k + 1) * z := by
                        show lenA cells 0 = _
                        rw [lenA_zero, hlen3]
                      refine ⟨_, rfl, ρ.put nx0 pn, ⟨⟨fun c hc => hput c (by have : c < nx0 := hc; omega), Nat.le_succ nx0, ⟨?_, ?_, ?_⟩, hsz, ?_, ?_, ?_⟩, hsm⟩, ⟨pn, ad2, cp2, hpnew, rfl, ?_⟩⟩
                      · intro c q' hq
                        show c < nx0 + 1
                        by_cases e : c = nx0
                        · omega
                        · rw [hput c e] at hq
                          have := h.dom c q' hq
                          have : c < nx0 := this
                          omega
                      · intro c y hy ha
                        rw [look] at hy
                        by_cases e : c = nx0
                        · rw [if_pos e] at hy
                          cases hy
                          subst e
                          refine ⟨pn, _, hpnew, by rw [hpn]; exact u2, arr3, ty3, fz3, rfl, ?_⟩
                          subst hpn
                          refine ⟨htot3, hrown, by rw [hrown]; simp only; omega, Nat.zero_le _, ?_, (fun hh => by cases hh), (fun hh => by cases hh)⟩
                          intro j y hj hy
                          rw [hrown] at hj
                          have hy' : (T.ofL cells).get j = some y := hy
                          rw [T.get_ofL] at hy'
                          obtain ⟨u, y1, y2⟩ := v1.get hy'
                          refine ⟨u, ?_, plainC_rel (List.all_eq_true.1 hpr y (List.mem_of_getElem? hy')) y2⟩
                          rw [v3 j hj]; exact y1
                        · rw [if_neg e] at hy
                          by_cases e3 : c = b
                          · rw [if_pos e3] at hy; cases hy; cases ha
                          · rw [if_neg e3] at hy
                            obtain ⟨q', o2, t1, t2, t3⟩ := h.blk c y hy ha
                            have hne2 := hal c y q' hy ha e3 t1
                            refine ⟨q', o2, by rw [hput c e]; exact t1, ?_, t3.mono hlemp⟩
                            rw [hkept q'.c (Array.getElem?_eq_some_iff.1 t2).1 hne2]; exact t2
                      · intro c y c' y' q1 q2 hy hw hy' ha hcc hq1 hq2 hcq
                        rw [look] at hy hy'
                        by_cases e : c = nx0
                        · rw [if_pos e] at hy; cases hy; cases hw
                        · rw [if_neg e] at hy
                          rw [hput c e] at hq1
                          by_cases e3 : c = b
                          · rw [if_pos e3] at hy; cases hy; cases hw
                          · rw [if_neg e3] at hy
                            have hne2 := hal c y q1 hy (wr_alive hw) e3 hq1
                            have hlt2 := hlt c y q1 hy (wr_alive hw) hq1
                            by_cases e' : c' = nx0
                            · subst e'
                              rw [hpnew] at hq2; cases hq2
                              rw [hpn] at hcq
                              simp only at hcq
                              rcases hplace with g | g
                              · omega
                              · omega
                            · rw [if_neg e'] at hy'
                              rw [hput c' e'] at hq2
                              by_cases e3' : c' = b
                              · rw [if_pos e3'] at hy'; cases hy'; cases ha
                              · rw [if_neg e3'] at hy'
                                exact h.apart c y c' y' q1 q2 hy hw hy' ha hcc hq1 hq2 hcq
                      · intro c hc hno
                        refine hkept c hc fun hcp => ?_
                        exact hno b _ p hl1 rfl hp hcp.symm
                      · intro c y q' hy hw hq hc
                        rw [look] at hy
                        by_cases e : c = nx0
                        · rw [if_pos e] at hy; cases hy; cases hw
                        · rw [if_neg e] at hy
                          rw [hput c e] at hq
                          by_cases e3 : c = b
                          · rw [if_pos e3] at hy; cases hy; cases hw
                          · rw [if_neg e3] at hy
                            exact ⟨c, y, q', hy, hw, hq, rfl⟩
                      · intro c y q' hy ha hq hc
                        rw [look] at hy
                        by_cases e : c = nx0
                        · subst e
                          rw [hpnew] at hq; cases hq
                          rw [hpn] at hc ⊢
                          simp only at hc
                          rcases hplace with g | g
                          · omega
                          · exact ⟨b, _, p, hl1, rfl, hp, g.symm⟩
                        · rw [if_neg e] at hy
                          rw [hput c e] at hq
                          by_cases e3 : c = b
                          · rw [if_pos e3] at hy; cases hy; cases ha
                          · rw [if_neg e3] at hy
                            exact ⟨c, y, q', hy, ha, hq, rfl⟩
                      · subst hpn
                        refine ⟨hs2.zpos, hs2.le, fun kk hkk => (by cases hkk), fun _ => ⟨?_, ?_⟩, ?_, ?_⟩
                        · simp only
                          have := Nat.mul_le_mul_right z hs2.le
                          omega
                        · simp only [Nat.add_zero]
                          cases cap with
                          | some kk => exact .inl (hs2.ex kk rfl).2.2
                          | none => exact (hs2.op rfl).2
                        · simp only; omega
                        · simp only; omega
                    have hvx : ∀ (ρ0 : Mp), ρ0 (P.globals.size + 1) = some ⟨p'.c, p'.o + o', p'.tot, z⟩ → CRel ρ0 (.sl (Nat.succ P.globals.size) 0 1 (some 1) z) (.slice (some ⟨p'.c, p'.o + o', none⟩) 1 1) := fun ρ0 h0 =>
                      ⟨_, _, _, h0, rfl, ⟨hzp, Nat.le_refl _, fun kk hkk => (by cases hkk; exact ⟨rfl, by show 0 + 1 * z ≤ z; omega, rfl⟩), fun hh => (by cases hh), by have := hs'.tot; show p'.o + o' + 0 + 1 * z ≤ p'.tot; omega, by show 0 + 1 * z ≤ z; omega⟩⟩
                    by_cases hroom : cp = k
                    · obtain ⟨bR, oR, cap, s1, rwR, hs1, hb1, hl1R, hrd⟩ := memoRun_some hruns.1
                      refine fin (k * z) ?_
                      have := run_calls' hany ht hk hx (lf := lf) (n := n) hf (small (k * z) (Nat.le_refl _) hkz) (hgok _) hs1 (vals := #[.slice (some ⟨p.c, p.o + o, none⟩) k cp, .int .i64 (Int.ofNat i), .slice (some ⟨p'.c, p'.o + o', none⟩) 1 1])
                        (.cons ⟨_, _, _, rhoI_0, rfl, ⟨hzp, hsle, fun kk hkk => (by cases hkk; exact ⟨hroom, by show 0 + k * z ≤ k * z; omega, rfl⟩), fun hh => (by cases hh), by show p.o + o + 0 + cp * z ≤ p.tot; omega, by show 0 + k * z ≤ k * z; omega⟩⟩ (.cons rfl (.cons (hvx _ rhoI_1) .nil)))
                      exact ⟨this.1, Calls.mono this.2 fun e' w' ⟨u, he, hd⟩ => ⟨u, he, bR, oR, cap, s1, rwR, hd, hb1, hl1R, hrd⟩⟩
                    · obtain ⟨bR, oR, cap, s1, rwR, hs1, hb1, hl1R, hrd⟩ := memoRun_some hruns.2
                      have hcp : k + 1 ≤ cp := by omega
                      have hcpz : (k + 1) * z ≤ cp * z := Nat.mul_le_mul_right z hcp
                      refine fin ((k + 1) * z) ?_
                      have := run_calls' hany ht hk hx (lf := lf) (n := n) hf (small ((k + 1) * z) (Nat.mul_le_mul_right z (Nat.le_succ k)) hcpz) (hgok _) hs1 (vals := #[.slice (some ⟨p.c, p.o + o, none⟩) k cp, .int .i64 (Int.ofNat i), .slice (some ⟨p'.c, p'.o + o', none⟩) 1 1])
                        (.cons ⟨_, _, _, rhoI_0, rfl, ⟨hzp, hsle, fun kk hkk => (by cases hkk), fun _ => ⟨by show (k + 1) * z ≤ 0 + cp * z; omega, .inl rfl⟩, by show p.o + o + 0 + cp * z ≤ p.tot; omega, by show 0 + k * z ≤ (k + 1) * z; rw [Nat.zero_add]; exact Nat.mul_le_mul_right z (Nat.le_succ k)⟩⟩ (.cons rfl (.cons (hvx _ rhoI_1) .nil)))
                      exact ⟨this.1, Calls.mono this.2 fun e' w' ⟨u, he, hd⟩ => ⟨u, he, bR, oR, cap, s1, rwR, hd, hb1, hl1R, hrd⟩⟩
  · cases hr'
end
end Ev
