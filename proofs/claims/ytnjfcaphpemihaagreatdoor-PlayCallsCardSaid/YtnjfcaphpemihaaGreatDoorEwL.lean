import Derived.Test.YtnjfcaphpemihaaGreatDoorEwK
set_option linter.unusedVariables false
set_option linter.unusedSimpArgs false
namespace Ev
open Go
noncomputable def stM (ng : Nat) (ds : List D) : St := { h := T.nil.set ng (.row (mkRow (cellsD ds))), nx := ng + 1 }
theorem stM_get {ng : Nat} {ds : List D} {x : Nat} {y : Blk} (h : (stM ng ds).h.get x = some y) : x = ng ∧ y = .row (mkRow (cellsD ds)) := by
  have h : ((T.nil : T Blk).set ng (.row (mkRow (cellsD ds)))).get x = some y := h
  rw [T.get_set] at h
  split at h
  · rename_i e; cases h; exact ⟨e, rfl⟩
  · cases h
theorem stM_row (ng : Nat) (ds : List D) : (stM ng ds).h.get ng = some (.row (mkRow (cellsD ds))) := by
  show ((T.nil : T Blk).set ng (.row (mkRow (cellsD ds)))).get ng = _
  rw [T.get_set, if_pos rfl]
def MeLeaves (ρ : Mp) (p : Place) (w : World) (pv : PV) (ds' : List D) (u : Value) (w' : World) : Prop :=
  ∃ m' : Snap, ρ.m.le m' ∧ (∀ c i v, m' c i = some v → ρ.m c i = some v ∨ w.heap.size ≤ c) ∧ (∀ i, m' p.c i = none) ∧ Lies m' w'.heap ∧ PVRel m' pv u ∧
    (∃ arr e fz, w'.heap[p.c]? = some (.cells arr e fz) ∧ ∀ f', RowRel ⟨f', m'⟩ p (mkRow (cellsD ds')) arr fz) ∧ (∀ c, c < w.heap.size → p.c ≠ c → w'.heap[c]? = w.heap[c]?) ∧ w.heap.size ≤ w'.heap.size ∧ Same w w'
def MeOk (P : Program) (f : Nat) (F : List D → List PW → Option (PV × List D)) : Prop :=
  ∀ (ρ : Mp) (w : World) (vals : Array Value) (ds : List D) (ps : List PW) (pv : PV) (ds' : List D), HRel ρ (stM P.globals.size ds).h.get (P.globals.size + 1) w.heap → GOk P.globals.size ρ → F ds ps = some (pv, ds') → ds'.length = ds.length →
    All2 (WRel ρ) (.c (.ptr P.globals.size 0) :: ps.map PW.toW) vals.toList →
    (callFunc f vals).run P w = .ok (.enter f vals) w ∧ Calls P f vals w (fun e w' => ∃ u p, e = .returned u ∧ ρ P.globals.size = some p ∧ MeLeaves ρ p w pv ds' u w')

theorem meRow_some {s : St} {b : Nat} {l : List C} (h : meRow s b = some l) : ∃ q n, s.h.get b = some (.row ⟨q, n, true, 0, []⟩) ∧ q.getL n 0 = some l := by
  unfold meRow at h
  split at h
  · rename_i q n e; exact ⟨q, n, e, h⟩
  · cases h
theorem frzV_ok' {ρ : Mp} {look : Look} {nx : Nat} {H : Array Obj} (h : HRel ρ look nx H) {x : V} {d : PV} {bs : List Nat} (hf : frzV look x = some (d, bs)) :
    Leafs look bs ∧ ∀ bs', (∀ b ∈ bs, b ∈ bs') → ∀ v, VRel ρ x v → PVRel (snapOf ρ H bs') d v := by
  cases x with
  | w x =>
    simp only [frzV] at hf
    split at hf
    · rename_i d' b' e
      cases hf
      obtain ⟨g1, g2⟩ := frzW_ok h e
      exact ⟨g1, fun bs' hb v hv => g2 _ hb v hv⟩
    · cases hf
  | tup l =>
    simp only [frzV] at hf
    split at hf
    · rename_i d' b' e
      cases hf
      obtain ⟨g1, g2⟩ := frzWs_ok h _ _ _ e
      refine ⟨g1, fun bs' hb v hv => ?_⟩
      obtain ⟨a, rfl, hl⟩ := hv
      exact ⟨a, rfl, g2 _ hb _ hl⟩
    · cases hf
  | un => cases hf

theorem row_again {ρ ρ' : Mp} {p : Place} {q : T C} {n : Nat} {arr : Array Value} {fz : Nat × Nat} {l : List C} {ds : List D} {m : Snap} (h : RowRel ρ p ⟨q, n, true, 0, []⟩ arr fz) (hl : q.getL n 0 = some l) (hlen : l.length = ds.length)
    (hd : ∀ vs, LRel ρ l vs → All2 (DRel m) ds vs) (hm : ρ'.m = m) : RowRel ρ' p (mkRow (cellsD ds)) arr fz := by
  obtain ⟨vs, g1, g2, g3⟩ := getL_rel h (by show 0 + n ≤ n; omega) hl
  have hn : l.length = n := (T.getL_some hl).1
  have hcn : (mkRow (cellsD ds)).n = n := by
    show lenA (cellsD ds) 0 = n
    rw [lenA_zero, cellsD, List.length_map, ← hlen, hn]
  have hrel := cellsD_rel (ρ := ρ') (by rw [hm]; exact hd vs g1)
  refine ⟨h.tot, hcn.trans h.kn, ?_, .inl (Nat.zero_le _), ?_, fun _ => h.free rfl, fun _ _ => h.mark rfl rfl⟩
  · rw [hcn]; exact h.le
  · intro i x hi hx
    rw [hcn] at hi
    have hx : (T.ofL (cellsD ds)).get i = some x := hx
    rw [T.get_ofL] at hx
    obtain ⟨v, k1, k2⟩ := hrel.get hx
    have := g3 i hi
    rw [Nat.add_zero] at this
    exact ⟨v, this.trans k1, k2⟩

def Mp.me (ρ : Mp) (ng b : Nat) (m : Snap) : Mp := ⟨fun g => if g < ng then ρ g else if g = ng then ρ b else none, m⟩
theorem Mp.me_at (ρ : Mp) (ng b : Nat) (m : Snap) (g : Nat) : (ρ.me ng b m) g = if g < ng then ρ g else if g = ng then ρ b else none := rfl

section
variable {P : Program} {kps : List (Nat × Nat)} {exts : List (Nat × Ext)}
theorem ext_me {f : Nat} {F : List D → List PW → Option (PV × List D)} (hp : MeOk P f F) : ExtOne P P.globals.size f (.me F []) := by
  intro args s v s' ρ w vals h hg hr hv
  left
  have hr : extMe F args s = .ok v s' := hr
  unfold extMe at hr
  split at hr
  · rename_i _ b rest _
    split at hr
    · cases hr
    · rename_i l hme
      split at hr
      · cases hr
      · rename_i ds bs hds
        split at hr
        · cases hr
        · rename_i ps bs' hps
          split at hr
          · cases hr
          · rename_i hnb
            split at hr
            · cases hr
            · rename_i pv ds' hF
              split at hr
              · rename_i hlen
                cases hr
                clear hr
                have hlen : ds'.length = ds.length := by
                  have := Nat.eq_of_beq_eq_true hlen
                  rwa [lenA_zero, lenA_zero] at this
                have hnb : b ∉ bs ++ bs' := fun hb => by
                  rw [(natIn_iff _ _).2 hb] at hnb; cases hnb
                obtain ⟨q, n, hrow, hq⟩ := meRow_some hme
                obtain ⟨f1, f2, f3⟩ := mapO_frz h _ _ _ _ hds
                obtain ⟨f4, f5⟩ := frzWs_ok h _ _ _ hps
                have hlf : Leafs s.h.get (bs ++ bs') := fun x hx => (List.mem_append.1 hx).elim (f1 x) (f4 x)
                have p1 := Post.sealed h hlf
                have h1 := p1.rel
                have hrow1 : (sealS s (bs ++ bs')).h.get b = some (.row ⟨q, n, true, 0, []⟩) := by
                  show (kill s.h (bs ++ bs')).get b = _
                  rw [kill_get, if_neg hnb]; exact hrow
                obtain ⟨p, o, g1, g2, g3⟩ := h.blk b _ hrow rfl
                obtain ⟨arr, e, fz, rfl, g4⟩ := g3
                generalize hm1 : snapOf ρ w.heap (bs ++ bs') = m1 at *
                have hno1 : ∀ i, m1 p.c i = none := fun i => by
                  cases hz : m1 p.c i with
                  | none => rfl
                  | some v => exact (h1.away b _ p hrow1 rfl g1 i v hz).elim
                have hrr : RowRel (ρ.me P.globals.size b m1) p (mkRow (cellsD ds)) arr fz := row_again g4 hq f2 (fun vs hvs => by
                  have := f3 (bs ++ bs') (fun x hx => List.mem_append_left _ hx) vs hvs
                  rw [hm1] at this; exact this) rfl
                have hat : (ρ.me P.globals.size b m1) P.globals.size = some p := by
                  rw [Mp.me_at, if_neg (Nat.lt_irrefl _), if_pos rfl]; exact g1
                have h2 : HRel (ρ.me P.globals.size b m1) (stM P.globals.size ds).h.get (P.globals.size + 1) w.heap := by
                  refine ⟨h1.lies, ?_, ?_, ?_, ?_⟩
                  · intro x y r hx hw hr i v hm
                    obtain ⟨rfl, rfl⟩ := stM_get hx
                    rw [hat] at hr; cases hr
                    have hm : m1 p.c i = some v := hm
                    rw [hno1] at hm; cases hm
                  · intro x r hx
                    rw [Mp.me_at] at hx
                    split at hx
                    · omega
                    · split at hx
                      · omega
                      · cases hx
                  · intro x y hx ha
                    obtain ⟨rfl, rfl⟩ := stM_get hx
                    exact ⟨p, _, hat, g2, arr, e, fz, rfl, hrr⟩
                  · intro x y x' y' r r' hx hw hx' ha hne
                    exact absurd ((stM_get hx').1.trans (stM_get hx).1.symm) hne
                have hgok : GOk P.globals.size (ρ.me P.globals.size b m1) := fun g hlt => by
                  obtain ⟨r, k1, k2⟩ := hg g hlt
                  exact ⟨r, by rw [Mp.me_at, if_pos hlt]; exact k1, k2⟩
                have hargs : All2 (WRel (ρ.me P.globals.size b m1)) (.c (.ptr P.globals.size 0) :: ps.map PW.toW) vals.toList := by
                  generalize vals.toList = vl at hv
                  cases hv with
                  | cons hv1 hv2 =>
                    have hr2 := f5 (bs ++ bs') (fun x hx => List.mem_append_right _ hx) _ hv2
                    rw [hm1] at hr2
                    refine .cons ?_ (toWs_relP (ρ := ρ.me P.globals.size b m1) hr2)
                    have hv1 : PtrRel ρ (b, 0) _ := hv1
                    show PtrRel (ρ.me P.globals.size b m1) (P.globals.size, 0) _
                    unfold PtrRel at hv1 ⊢
                    simp only [Mp.me_at, Nat.lt_irrefl, if_false, if_true]
                    exact hv1
                have := hp _ w vals ds ps pv ds' h2 hgok hF hlen hargs
                refine ⟨this.1, Calls.mono this.2 ?_⟩
                rintro ee w' ⟨u, p', rfl, hp', m', l1, l2, l0, l3, l4, ⟨arr', e', fz', l7, l8⟩, l5, l6, l9⟩
                rw [hat] at hp'; cases hp'
                have hplt : p.c < w.heap.size := (Array.getElem?_eq_some_iff.1 g2).1
                refine ⟨u, rfl, ⟨ρ.f, m'⟩, ⟨p1.trans (s1 := sealS s (bs ++ bs')) (ρ1 := ⟨ρ.f, m1⟩) ?_, l9⟩, toV_relP l4⟩
                have hget : ∀ x, ((kill s.h (bs ++ bs')).set b (.row (mkRow (cellsD ds')))).get x = if x = b then some (.row (mkRow (cellsD ds'))) else (sealS s (bs ++ bs')).h.get x := fun x => by
                  rw [T.get_set]; rfl
                have hap : ∀ x y r, (sealS s (bs ++ bs')).h.get x = some y → alive y = true → x ≠ b → ρ.f x = some r → p.c ≠ r.c := by
                  intro x y r hx ha hne hr hc
                  obtain ⟨r1, r2, s1, s2, s3, s4, s5⟩ := h1.apart b _ x y p r hrow1 rfl hx ha hne g1 hr hc
                  cases s1
                  cases s5
                refine ⟨l1, ?_, fun _ _ => rfl, Nat.le_refl _, ⟨l3, ?_, h1.dom, ?_, ?_⟩, l6, ?_, ?_, ?_⟩
                · intro c i v hm
                  rcases l2 c i v hm with g | g
                  · exact .inl g
                  · exact .inr (.inl g)
                · intro x y r hx hw hr i v hm
                  rw [hget] at hx
                  have hr : ρ.f x = some r := hr
                  split at hx
                  · rename_i ex
                    subst ex
                    have hr : ρ x = some r := hr
                    rw [g1] at hr; cases hr
                    have hm : m' p.c i = some v := hm
                    rw [l0] at hm; cases hm
                  · rcases l2 _ _ _ hm with g | g
                    · exact h1.away x y r hx hw hr i v g
                    · obtain ⟨r', o', k1, k2, _⟩ := h1.blk x y hx (wr_alive hw)
                      have k1 : ρ.f x = some r' := k1
                      rw [hr] at k1; cases k1
                      have := (Array.getElem?_eq_some_iff.1 k2).1
                      omega
                · intro x y hx ha
                  rw [hget] at hx
                  split at hx
                  · rename_i ex
                    cases hx
                    subst ex
                    exact ⟨p, _, g1, l7, arr', e', fz', rfl, l8 _⟩
                  · rename_i ex
                    obtain ⟨r', o', k1, k2, k3⟩ := h1.blk x y hx ha
                    exact ⟨r', o', k1, by rw [l5 _ (Array.getElem?_eq_some_iff.1 k2).1 (hap x y r' hx ha ex k1)]; exact k2, k3.mono (show (⟨ρ.f, m1⟩ : Mp).le ⟨ρ.f, m'⟩ from ⟨fun _ _ h => h, l1⟩)⟩
                · intro x y x' y' r r' hx hw hx' ha hne hr hr' hc
                  rw [hget] at hx hx'
                  split at hx
                  · rename_i ex
                    split at hx'
                    · rename_i ex'; exact absurd (ex'.trans ex.symm) hne
                    · rename_i ex'
                      subst ex
                      have hr : ρ x = some r := hr
                      rw [g1] at hr; cases hr
                      exact absurd hc (hap x' y' r' hx' ha ex' hr')
                  · rename_i ex
                    split at hx'
                    · rename_i ex'
                      subst ex'
                      have hr' : ρ x' = some r' := hr'
                      rw [g1] at hr'; cases hr'
                      exact absurd hc.symm (hap x y r hx (wr_alive hw) ex hr)
                    · exact h1.apart x y x' y' r r' hx hw hx' ha hne hr hr' hc
                · intro c hc hno
                  exact l5 c hc (hno b _ p hrow1 rfl g1)
                · intro x y r hx hw hr _
                  rw [hget] at hx
                  split at hx
                  · rename_i ex
                    subst ex
                    exact ⟨x, _, r, hrow1, rfl, hr, rfl⟩
                  · exact ⟨x, y, r, hx, hw, hr, rfl⟩
                · intro x y r hx ha hr _
                  rw [hget] at hx
                  split at hx
                  · rename_i ex
                    subst ex
                    exact ⟨x, _, r, hrow1, rfl, hr, rfl⟩
                  · exact ⟨x, y, r, hx, ha, hr, rfl⟩
              · cases hr
  · cases hr
end

section
variable {P : Program} {kps : List (Nat × Nat)} {exts : List (Nat × Ext)}
theorem run_calls2 (hany : P.follows .mixedOrders = true) (ht : typesOk P = true) (hk : kps.all (fun p => fnOk P p.1) = true) (hx : ∀ p ∈ exts, ExtOne P P.globals.size p.1 p.2) {lf n f : Nat} {args : List W} {s s' : St} {v : V} {ρ : Mp} {w : World} {vals : Array Value}
    (hf : ∀ x, (pairT exts .nil).get f = some x → extF x args s = .no) (h : HRel ρ s.h.get s.nx w.heap) (hg : GOk P.globals.size ρ) (hr : runF (envOf P exts kps) lf (n + 1) f args s = .ok v s') (hv : All2 (WRel ρ) args vals.toList) :
    (callFunc f vals).run P w = .ok (.enter f vals) w ∧ Calls P f vals w (fun e w' => ∃ u, e = .returned u ∧ Done ρ s w v s' u w') := by
  replace hr : (@Option.rec Ext (fun _ => VS) (@Option.rec Nat (fun _ => VS) .no (fun ks => @Option.rec Func (fun _ => VS) .no (fun fn => runB (envOf P exts kps) (runF (envOf P exts kps) lf n) lf ks fn args s) ((envOf P exts kps).fns.get f)) ((envOf P exts kps).kps.get f))
    (fun x => @VS.rec (fun _ => VS) (fun v s' => .ok v s') (@Option.rec Nat (fun _ => VS) .no (fun ks => @Option.rec Func (fun _ => VS) .no (fun fn => runB (envOf P exts kps) (runF (envOf P exts kps) lf n) lf ks fn args s) ((envOf P exts kps).fns.get f)) ((envOf P exts kps).kps.get f)) (extF x args s)) ((envOf P exts kps).ext.get f)) = .ok v s' := hr
  have hr : (@Option.rec Nat (fun _ => VS) .no (fun ks => @Option.rec Func (fun _ => VS) .no (fun fn => runB (envOf P exts kps) (runF (envOf P exts kps) lf n) lf ks fn args s) ((envOf P exts kps).fns.get f)) ((envOf P exts kps).kps.get f)) = .ok v s' := by
    cases hfe : (envOf P exts kps).ext.get f with
    | none => rw [hfe] at hr; exact hr
    | some x =>
      rw [hfe] at hr
      simp only [] at hr
      rw [hf x hfe] at hr
      exact hr
  have hE := envOf_ok P exts kps hany ht
  have hc := runF_ok hE (kps_ok P exts kps hk) (extOk_of exts kps hx) (fun call hc => draw_sound hE hc) (itOk_of exts kps hx) lf n
  cases hks : (envOf P exts kps).kps.get f with
  | none => rw [hks] at hr; cases hr
  | some ks =>
    rw [hks] at hr
    simp only [] at hr
    cases hfn : (envOf P exts kps).fns.get f with
    | none => rw [hfn] at hr; cases hr
    | some fn =>
      rw [hfn] at hr
      exact runB_ok hE (kps_ok P exts kps hk) hc (draw_sound hE hc) (itOk_of exts kps hx) hks hfn hr h hg hv

theorem me_of_run (hany : P.follows .mixedOrders = true) (ht : typesOk P = true) (hk : kps.all (fun p => fnOk P p.1) = true) (hx : ∀ p ∈ exts, ExtOne P P.globals.size p.1 p.2) {f : Nat} (F : List D → List PW → Option (PV × List D))
    (hrun : ∀ ds ps pv ds', F ds ps = some (pv, ds') → (∀ x, (pairT exts .nil).get f = some x → extF x (.c (.ptr P.globals.size 0) :: ps.map PW.toW) (stM P.globals.size ds) = .no) ∧
      ∃ lf n v s' bs l' bs2, runF (envOf P exts kps) lf (n + 1) f (.c (.ptr P.globals.size 0) :: ps.map PW.toW) (stM P.globals.size ds) = .ok v s' ∧ frzV s'.h.get v = some (pv, bs) ∧ P.globals.size ∉ bs ∧
        LRow s' P.globals.size l' ∧ mapO (frzC s'.h.get 2000) l' = some (ds', bs2) ∧ P.globals.size ∉ bs2) : MeOk P f F := by
  intro ρ w vals ds ps pv ds' h hg hF hlen hps
  obtain ⟨hno, lf, n, v, s', bs, l', bs2, hr, hz, hb1, hrow, hz2, hb2⟩ := hrun ds ps pv ds' hF
  have := run_calls2 hany ht hk hx hno h hg hr hps
  refine ⟨this.1, Calls.mono this.2 ?_⟩
  rintro e w' ⟨u, rfl, ρ', ⟨hp, hsm⟩, hv⟩
  obtain ⟨p0, o0, k1, k2, _⟩ := h.blk P.globals.size _ (stM_row _ _) rfl
  have k1' : ρ' P.globals.size = some p0 := by rw [hp.ext _ (Nat.lt_succ_self _)]; exact k1
  have hplt : p0.c < w.heap.size := (Array.getElem?_eq_some_iff.1 k2).1
  obtain ⟨f1, f2⟩ := frzV_ok' hp.rel hz
  obtain ⟨f3, f4, f5⟩ := mapO_frz hp.rel _ _ _ _ hz2
  obtain ⟨q, hat, hq⟩ := hrow.at_
  have hql : q.getL l'.length 0 = some l' := T.getL_of rfl fun j hj => by rw [Nat.zero_add]; exact hq j hj
  have hlf : ∀ x ∈ bs ++ bs2, ∃ r, s'.h.get x = some (.row r) ∧ r.leaf = true := fun x hx => (List.mem_append.1 hx).elim (f1 x) (f3 x)
  have hnb : P.globals.size ∉ bs ++ bs2 := fun hx => (List.mem_append.1 hx).elim hb1 hb2
  have hap : ∀ x ∈ bs ++ bs2, ∀ r, ρ' x = some r → p0.c ≠ r.c := by
    intro x hx r hr hc
    obtain ⟨rr, hrr, hleaf⟩ := hlf x hx
    obtain ⟨r1, r2, s1, s2, s3, s4, s5⟩ := hp.rel.apart _ _ x _ p0 r hat rfl hrr rfl (fun e => hnb (e ▸ hx)) k1' hr hc
    cases s1
    cases s5
  refine ⟨u, p0, rfl, k1, snapOf ρ' w'.heap (bs ++ bs2), Snap.le_trans hp.m (snapOf_le hp.rel.lies), ?_, ?_, snapOf_lies hp.rel.lies, f2 _ (fun x hx => List.mem_append_left _ hx) u hv, ?_, ?_, hp.sz, hsm⟩
  · intro c i v hm
    rcases snapOf_new hm with g | ⟨b, hb, r, hbr, hc⟩
    · rcases hp.mn c i v g with g | g | ⟨b, x, r, y1, y2, y3, y4⟩
      · exact .inl g
      · exact .inr g
      · obtain ⟨rfl, rfl⟩ := stM_get y1
        rw [k1] at y3; cases y3
        subst y4
        exact (hp.rel.away _ _ p0 hat rfl k1' i v g).elim
    · obtain ⟨rr, hrr, hleaf⟩ := hlf b hb
      rcases Nat.lt_or_ge c w.heap.size with g | g
      · obtain ⟨b0, x0, r0, y1, y2, y3, y4⟩ := hp.wrs b _ r hrr hleaf hbr (by omega)
        obtain ⟨rfl, rfl⟩ := stM_get y1
        rw [k1] at y3; cases y3
        exact absurd y4 (hap b hb r hbr)
      · exact .inr g
  · intro i
    cases hm : snapOf ρ' w'.heap (bs ++ bs2) p0.c i with
    | none => rfl
    | some v =>
      rcases snapOf_new hm with g | ⟨b, hb, r, hbr, hc⟩
      · exact (hp.rel.away _ _ p0 hat rfl k1' i v g).elim
      · exact absurd hc.symm (hap b hb r hbr)
  · obtain ⟨p1, o1, m1, m2, arr, e1, fz, rfl, m3⟩ := hp.rel.blk _ _ hat rfl
    rw [k1'] at m1; cases m1
    refine ⟨arr, e1, fz, m2, fun f' => row_again m3 hql f4 (fun vs hvs => f5 (bs ++ bs2) (fun x hx => List.mem_append_right _ hx) vs hvs) rfl⟩
  · intro c hc hne
    refine hp.frame c hc fun b x r y1 y2 y3 y4 => ?_
    obtain ⟨rfl, rfl⟩ := stM_get y1
    rw [k1] at y3; cases y3
    exact hne y4

noncomputable def ofM (R : List D → List PW → PV × List D → Prop) : List D → List PW → Option (PV × List D) := fun ds ps => open Classical in if h : ∃ v, R ds ps v then some (Classical.choose h) else none
theorem ofM_some {R : List D → List PW → PV × List D → Prop} {ds : List D} {ps : List PW} {v : PV × List D} (h : ofM R ds ps = some v) : R ds ps v := by
  unfold ofM at h
  split at h
  · rename_i he; cases h; exact Classical.choose_spec he
  · cases h
theorem ofM_eq {R : List D → List PW → PV × List D → Prop} {ds : List D} {ps : List PW} {v : PV × List D} (h : R ds ps v) (hu : ∀ v', R ds ps v' → v' = v) : ofM R ds ps = some v := by
  unfold ofM
  have he : ∃ v, R ds ps v := ⟨v, h⟩
  rw [dif_pos he, hu _ (Classical.choose_spec he)]
theorem ofM_none {R : List D → List PW → PV × List D → Prop} {ds : List D} {ps : List PW} (h : ∀ v, ¬ R ds ps v) : ofM R ds ps = none := by
  unfold ofM
  rw [dif_neg (fun ⟨v, hv⟩ => h v hv)]
theorem me_goE (hany : P.follows .mixedOrders = true) (ht : typesOk P = true) (hk : kps.all (fun p => fnOk P p.1) = true) (hx : OksE P exts) {f : Nat} (R : List D → List PW → PV × List D → Prop)
    (hf : ∀ ds ps v, R ds ps v → ∀ x, (pairT exts .nil).get f = some x → extF x (.c (.ptr P.globals.size 0) :: ps.map PW.toW) (stM P.globals.size ds) = .no)
    (h : ∀ ds ps pv ds', R ds ps (pv, ds') → goC (envOf P exts kps) f (.c (.ptr P.globals.size 0) :: ps.map PW.toW) (stM P.globals.size ds) fun v s' => ∃ bs l' bs2, frzV s'.h.get v = some (pv, bs) ∧ P.globals.size ∉ bs ∧
        LRow s' P.globals.size l' ∧ mapO (frzC s'.h.get 2000) l' = some (ds', bs2) ∧ P.globals.size ∉ bs2) : OkE P (f, .me (ofM R) []) := by
  refine ext_me (me_of_run hany ht hk hx _ fun ds ps pv ds' hF => ⟨hf ds ps _ (ofM_some hF), ?_⟩)
  obtain ⟨v, s', ⟨N, hN⟩, bs, l', bs2, hz⟩ := h ds ps pv ds' (ofM_some hF)
  exact ⟨N, N, v, s', bs, l', bs2, hN N (N + 1) (Nat.le_refl _) (Nat.le_succ _), hz⟩
end
section
variable {E : Env} {f ks : Nat} {args : List W} {s : St}
theorem extMe_plain {F : List D → List PW → Option (PV × List D)} {b : Nat} {ds : List D} {ps : List PW} (hr : LRow s b (cellsD ds)) (hd : ds.all D.plain = true) (hp : ps.all PW.plain = true) : extMe F (.c (.ptr b 0) :: ps.map PW.toW) s = match F ds ps with
    | none => .no
    | some (v, ds') => match Nat.beq ds'.length ds.length with
      | true => .ok v.toV ⟨s.h.set b (.row (mkRow (cellsD ds'))), s.nx⟩
      | false => .no := by
  obtain ⟨q, h1, h2⟩ := hr.at_
  have hq : q.getL (cellsD ds).length 0 = some (cellsD ds) := T.getL_of rfl fun j hj => by rw [Nat.zero_add]; exact h2 j hj
  have hme : meRow s b = some (cellsD ds) := by unfold meRow; rw [h1]; exact hq
  unfold extMe
  simp only [hme, mapO_plain _ 2000 ds hd, frzWs_plain _ ps hp, List.append_nil, natIn]
  cases F ds ps with
  | none => rfl
  | some r =>
    obtain ⟨v, ds'⟩ := r
    simp only [lenA_zero]
    rfl
theorem callR_me {R : List D → List PW → PV × List D → Prop} {b : Nat} {ds ds' : List D} {ps : List PW} {pv : PV} (hx : E.ext.get f = some (.me (ofM R) [])) (hr : LRow s b (cellsD ds)) (hd : ds.all D.plain = true) (hp : ps.all PW.plain = true)
    (hR : R ds ps (pv, ds')) (hu : ∀ v, R ds ps v → v = (pv, ds')) (hl : ds'.length = ds.length) : ∃ s2, CallR E f (.c (.ptr b 0) :: ps.map PW.toW) s pv.toV s2 ∧ LRow s2 b (cellsD ds') ∧ s2.nx = s.nx ∧ ∀ x, x ≠ b → s2.h.get x = s.h.get x := by
  refine ⟨⟨s.h.set b (.row (mkRow (cellsD ds'))), s.nx⟩, callR_ext hx ?_, LRow.of_rowB ?_, rfl, fun x hne => T.get_set_ne _ _ hne⟩
  · show extMe (ofM R) (.c (.ptr b 0) :: ps.map PW.toW) s = _
    rw [extMe_plain hr hd hp, ofM_eq hR hu]
    simp only [hl, Nat.beq_refl]
  · show (s.h.set b _).get b = _
    rw [T.get_set, if_pos rfl, mkRow_rowB]
theorem ext_me_no {R : List D → List PW → PV × List D → Prop} {b : Nat} {ds : List D} {ps : List PW} (hr : LRow s b (cellsD ds)) (hd : ds.all D.plain = true) (hp : ps.all PW.plain = true) (h : ∀ v, ¬ R ds ps v) : extF (.me (ofM R) []) (.c (.ptr b 0) :: ps.map PW.toW) s = .no := by
  show extMe (ofM R) (.c (.ptr b 0) :: ps.map PW.toW) s = _
  rw [extMe_plain hr hd hp, ofM_none h]
theorem stM_LRow (ng : Nat) (ds : List D) : LRow (stM ng ds) ng (cellsD ds) := LRow.of_rowB (by rw [stM_row, mkRow_rowB])

theorem callR_bodyN {fn : Func} {c : Code} {v : V} {s' : St} (hx : ∀ x, E.ext.get f = some x → extF x args s = .no) (hk : E.kps.get f = some ks) (hf : E.fns.get f = some fn) (hb : fn.body = some c) (ha : argsKept ks (lenA args 0) = true)
    (h : go E ks [.c c] (.base 0 ((argsA args 0).get 0) (argsA args 0)) s fun e a' s2 => (∀ i, e ≠ .ex i) ∧ resL (resOf E a' s2 fn.results.toList) s2 = .ok v s') : CallR E f args s v s' := by
  obtain ⟨e, a', s2, N, hN, he, hr⟩ := h
  refine ⟨N + 1, fun lf n h1 h2 => ?_⟩
  obtain ⟨n, rfl⟩ : ∃ m, n = m + 1 := ⟨n - 1, by omega⟩
  show (@Option.rec Ext (fun _ => VS) (@Option.rec Nat (fun _ => VS) .no (fun ks => @Option.rec Func (fun _ => VS) .no (fun fn => runB E (runF E lf n) lf ks fn args s) (E.fns.get f)) (E.kps.get f))
    (fun x => @VS.rec (fun _ => VS) (fun v s' => .ok v s') (@Option.rec Nat (fun _ => VS) .no (fun ks => @Option.rec Func (fun _ => VS) .no (fun fn => runB E (runF E lf n) lf ks fn args s) (E.fns.get f)) (E.kps.get f)) (extF x args s)) (E.ext.get f)) = _
  have hbody : runB E (runF E lf n) lf ks fn args s = .ok v s' := by
    unfold runB
    rw [hb, ha]
    have := hN lf n (by omega) (by omega)
    simp only [runK, andThen_nm] at this
    simp only [this]
    unfold resR
    cases e with
    | nm => exact hr
    | ex i => exact absurd rfl (he i)
    | ret => exact hr
  cases hxf : E.ext.get f with
  | none => simp only [hk, hf]; exact hbody
  | some x => simp only [hx x hxf, hk, hf]; exact hbody
theorem goC_bodyN {fn : Func} {c : Code} {K : V → St → Prop} (hx : ∀ x, E.ext.get f = some x → extF x args s = .no) (hk : E.kps.get f = some ks) (hf : E.fns.get f = some fn) (hb : fn.body = some c) (ha : argsKept ks (lenA args 0) = true)
    (h : go E ks [.c c] (.base 0 ((argsA args 0).get 0) (argsA args 0)) s (goR E fn.results.toList K)) : goC E f args s K := by
  obtain ⟨e, a', s2, N, hN, hr⟩ := h
  unfold goR at hr
  have : ∃ l, (∀ i, e ≠ .ex i) ∧ resOf E a' s2 fn.results.toList = some l ∧ K (tupOf l) s2 := by
    cases e with
    | ex i => exact hr.elim
    | nm =>
      simp only [] at hr
      split at hr
      · rename_i l hl; exact ⟨l, fun i h => (by cases h), hl, hr⟩
      · exact hr.elim
    | ret =>
      simp only [] at hr
      split at hr
      · rename_i l hl; exact ⟨l, fun i h => (by cases h), hl, hr⟩
      · exact hr.elim
  obtain ⟨l, h1, h2, h3⟩ := this
  exact ⟨_, _, callR_bodyN hx hk hf hb ha ⟨e, a', s2, N, hN, h1, by rw [h2]; rfl⟩, h3⟩
end
end Ev

set_option linter.unusedVariables false
set_option linter.unusedSimpArgs false
namespace Ev
open Go
section
variable {E : Env} {ks : Nat} {ops0 : List Oper} {base : Nat} {tl : List Oper} {m : Nat} {ms : List Nat} {j : Nat} {k : List Fr} {a : A} {s : St} {gs : List (Nat × St)} {rs : List Rd} {eff : Nat} {Q : Ex → A → St → Prop}
variable (ops l : List Oper) (dst : Option Nat) (ty : TypeId) (pos : String) (af : Array Edge)
theorem dg_nilCheck (x : Operand) : dg E ks ops base tl k Q (⟨dst, .nilCheck x, ty, pos, af, none⟩ :: l) (m :: ms) j a s gs rs eff = dgO E ks (rNil a x) ops base tl l ms j dst k a s gs rs eff Q := dg_r ops l dst ty pos af (op := .nilCheck x) (f := fun _ a _ => rNil a x) rfl
theorem dg_index (t : TypeId) (x i : Operand) : dg E ks ops base tl k Q (⟨dst, .index t x i, ty, pos, af, none⟩ :: l) (m :: ms) j a s gs rs eff = dgO E ks (rIndex E a t x i) ops base tl l ms j dst k a s gs rs eff Q := dg_r ops l dst ty pos af (op := .index t x i) (f := fun E a _ => rIndex E a t x i) rfl
theorem dg_field (t : TypeId) (x : Operand) (f : Nat) : dg E ks ops base tl k Q (⟨dst, .field t x f, ty, pos, af, none⟩ :: l) (m :: ms) j a s gs rs eff = dgO E ks (rField E a t x f) ops base tl l ms j dst k a s gs rs eff Q := dg_r ops l dst ty pos af (op := .field t x f) (f := fun E a _ => rField E a t x f) rfl
theorem dg_convert {t t' : TypeId} (h : isNew E t' = false) (x : Operand) : dg E ks ops base tl k Q (⟨dst, .convert t t' x, ty, pos, af, none⟩ :: l) (m :: ms) j a s gs rs eff = dgS E ks (fun E a look => rConvert E look a t t' x) (rConvert E s.h.get a t t' x) ops base tl l m ms j dst k a s gs rs eff Q := by
  have hw2 : wantedG a ops none = some true := rfl
  have hk : opK (.convert t t' x) = .cv t t' x := rfl
  have hkk : kOf E (.cv t t' x) = .r true fun E a look => rConvert E look a t t' x := by
    show (match isNew E t' with | true => K.n fun E a id => nConv E a t t' x id | false => K.r true fun E a look => rConvert E look a t t' x) = _
    rw [h]
  unfold dgS
  simp only [dg, hw2, hk, hkk]
  cases rConvert E s.h.get a t t' x <;> rfl
end
theorem dt_nilCheck {E : Env} {ks : Nat} {k : List Fr} {Q : Ex → A → St → Prop} {a : A} {s : St} {tl : List Oper} (dst : Option Nat) (ty : TypeId) (pos : String) (af : Array Edge) (x : Operand) {v : V} (h : rNil a x = some v) : dt E ks (⟨dst, .nilCheck x, ty, pos, af, none⟩ :: tl) a s k Q = dt E ks tl (putA ks a dst v) s k Q := by
  unfold dt
  simp only [tailOps, tailOp, isPure, opK, h]
theorem go_drawK {E : Env} {ks : Nat} {k : List Fr} {a : A} {s : St} {Q : Ex → A → St → Prop} (i : Nat) (ops : Array Oper) (h : drawsR ops.toList = true) (H : ∀ n, s.nx ≤ n → go E ks (.o ops.toList ops.toList :: k) a ⟨s.h, n⟩ Q) : go E ks (.c (.region i ops true) :: k) a s Q := by
  rw [go_draw i ops h]
  exact H _ (Nat.le_add_right _ _)
end Ev

set_option linter.unusedVariables false
namespace Ev
open Go
theorem zEV : (((((((type_of% @go_seq) ∧ (type_of% @go_region)) ∧ ((type_of% @go_move) ∧ (type_of% @go_assign))) ∧ (((type_of% @go_len) ∧ (type_of% @go_binOp)) ∧ ((type_of% @go_block) ∧ ((type_of% @go_scope) ∧ (type_of% @go_label))))) ∧ ((((type_of% @go_skip) ∧ (type_of% @go_exit)) ∧ ((type_of% @go_ret) ∧ ((type_of% @go_ops_nil) ∧ (type_of% @go_load)))) ∧ (((type_of% @go_fieldAddr) ∧ (type_of% @go_unOp)) ∧ ((type_of% @go_pick) ∧ ((type_of% @go_indexAddr) ∧ (type_of% @go_slice)))))) ∧ (((((type_of% @go_append) ∧ (type_of% @go_alloc)) ∧ ((type_of% @go_box) ∧ (type_of% @go_store))) ∧ (((type_of% @go_buildSlice) ∧ (type_of% @go_index)) ∧ ((type_of% @go_field) ∧ ((type_of% @go_extract) ∧ (type_of% @go_build))))) ∧ ((((type_of% @go_nilCheck) ∧ (type_of% @go_lookup)) ∧ ((type_of% @go_mapUpdate) ∧ ((type_of% @go_b) ∧ (type_of% @go_nil)))) ∧ (((type_of% @goE_nil) ∧ (type_of% @goE_nm)) ∧ ((type_of% @goE_ex_c) ∧ ((type_of% @goE_ret_c) ∧ (type_of% @goE_ex_b))))))) ∧ ((((((type_of% @goE_ret_b) ∧ (type_of% @go_guard)) ∧ ((type_of% @go_cond) ∧ (type_of% @goB_tt))) ∧ (((type_of% @goB_ff) ∧ (type_of% @goG_tt)) ∧ ((type_of% @goG_ff) ∧ ((type_of% @goO_some) ∧ (type_of% @goV_ok))))) ∧ ((((type_of% @goN_some) ∧ (type_of% @goV_okR)) ∧ ((type_of% @opnd_tmp) ∧ ((type_of% @opnd_int) ∧ (type_of% @opnd_bool)))) ∧ (((type_of% @opnd_nils) ∧ (type_of% @opnd_nilp)) ∧ ((type_of% @opnd_str) ∧ ((type_of% @A.get_putP) ∧ (type_of% @A.get_baseP)))))) ∧ (((((type_of% @L.get_consP) ∧ (type_of% @L.get_setP)) ∧ ((type_of% @L.get_nilP) ∧ ((type_of% @tbit_eqP) ∧ (type_of% @kept_true)))) ∧ (((type_of% @kept_false) ∧ (type_of% @A.keep_put)) ∧ ((type_of% @A.keep_base) ∧ ((type_of% @A.flush_put) ∧ (type_of% @A.flush_base))))) ∧ ((((type_of% @putA_some) ∧ (type_of% @putA_none)) ∧ ((type_of% @argsA_cons) ∧ ((type_of% @argsA_nil) ∧ (type_of% @toC_vc)))) ∧ (((type_of% @toC_c) ∧ (type_of% @toW_vc)) ∧ ((type_of% @toW_w) ∧ ((type_of% @toI_vc) ∧ (type_of% @toI_c)))))))) ∧ (((((((type_of% @toB_vc) ∧ (type_of% @toB_c)) ∧ ((type_of% @toP_vc) ∧ (type_of% @toP_c))) ∧ (((type_of% @opC_tmp) ∧ (type_of% @opW_tmp)) ∧ ((type_of% @opI_tmp) ∧ ((type_of% @opP_tmp) ∧ (type_of% @opC_int))))) ∧ ((((type_of% @opW_int) ∧ (type_of% @opI_int)) ∧ ((type_of% @opW_bool) ∧ ((type_of% @opC_bool) ∧ (type_of% @opW_nils)))) ∧ (((type_of% @opW_nilp) ∧ (type_of% @opC_nils)) ∧ ((type_of% @opW_str) ∧ ((type_of% @rBin_eq) ∧ (type_of% @rUn_eq)))))) ∧ (((((type_of% @rPick_eq) ∧ (type_of% @rLen_eq)) ∧ ((type_of% @rIndexAddr_eq) ∧ (type_of% @rFieldAddr_eq))) ∧ (((type_of% @rLoad_eq) ∧ (type_of% @aAppend_eq)) ∧ ((type_of% @aApp_eq) ∧ ((type_of% @aStore_eq) ∧ (type_of% @retU_some))))) ∧ ((((type_of% @retCS_ok) ∧ (type_of% @retW_some)) ∧ ((type_of% @retC_some) ∧ ((type_of% @b_lss) ∧ (type_of% @b_leq)))) ∧ (((type_of% @b_gtr) ∧ (type_of% @b_geq)) ∧ ((type_of% @b_eql) ∧ ((type_of% @b_neq) ∧ (type_of% @b_add))))))) ∧ ((((((type_of% @b_sub) ∧ (type_of% @b_mul)) ∧ ((type_of% @b_seql) ∧ (type_of% @b_sneq))) ∧ (((type_of% @u_not) ∧ (type_of% @goR_nm)) ∧ ((type_of% @goR_ret) ∧ ((type_of% @resOf_nil) ∧ (type_of% @resOf_cons))))) ∧ ((((type_of% @resOne_tmp) ∧ (type_of% @tupOf_one)) ∧ ((type_of% @guardOk_eq) ∧ ((type_of% @boolIs_t) ∧ (type_of% @boolIs_f)))) ∧ (((type_of% @boolIs_t') ∧ (type_of% @boolIs_f')) ∧ ((type_of% @boolIs_skip) ∧ ((type_of% @nBox_eq) ∧ (type_of% @rExtract_eq)))))) ∧ (((((type_of% @resOne_cell) ∧ (type_of% @tupOf_two)) ∧ ((type_of% @cells_c) ∧ ((type_of% @cells_agg) ∧ (type_of% @true_implies)))) ∧ (((type_of% @false_implies) ∧ (type_of% @and_true)) ∧ ((type_of% @true_and) ∧ ((type_of% @Bool.not_false) ∧ (type_of% @Bool.not_true))))) ∧ ((((type_of% @Bool.true_eq_false) ∧ (type_of% @Bool.false_eq_true)) ∧ ((type_of% @decide_eq_true_eq) ∧ ((type_of% @decide_eq_false_iff_not) ∧ (type_of% @Bool.not_eq_true')))) ∧ (((type_of% @Bool.not_eq_false') ∧ (type_of% @decide_true)) ∧ ((type_of% @decide_false) ∧ ((type_of% @List.getElem?_cons_zero.{0}) ∧ (type_of% @List.getElem?_cons_succ.{0})))))))) := ⟨⟨⟨⟨⟨⟨⟨@go_seq, @go_region⟩, ⟨@go_move, @go_assign⟩⟩, ⟨⟨@go_len, @go_binOp⟩, ⟨@go_block, ⟨@go_scope, @go_label⟩⟩⟩⟩, ⟨⟨⟨@go_skip, @go_exit⟩, ⟨@go_ret, ⟨@go_ops_nil, @go_load⟩⟩⟩, ⟨⟨@go_fieldAddr, @go_unOp⟩, ⟨@go_pick, ⟨@go_indexAddr, @go_slice⟩⟩⟩⟩⟩, ⟨⟨⟨⟨@go_append, @go_alloc⟩, ⟨@go_box, @go_store⟩⟩, ⟨⟨@go_buildSlice, @go_index⟩, ⟨@go_field, ⟨@go_extract, @go_build⟩⟩⟩⟩, ⟨⟨⟨@go_nilCheck, @go_lookup⟩, ⟨@go_mapUpdate, ⟨@go_b, @go_nil⟩⟩⟩, ⟨⟨@goE_nil, @goE_nm⟩, ⟨@goE_ex_c, ⟨@goE_ret_c, @goE_ex_b⟩⟩⟩⟩⟩⟩, ⟨⟨⟨⟨⟨@goE_ret_b, @go_guard⟩, ⟨@go_cond, @goB_tt⟩⟩, ⟨⟨@goB_ff, @goG_tt⟩, ⟨@goG_ff, ⟨@goO_some, @goV_ok⟩⟩⟩⟩, ⟨⟨⟨@goN_some, @goV_okR⟩, ⟨@opnd_tmp, ⟨@opnd_int, @opnd_bool⟩⟩⟩, ⟨⟨@opnd_nils, @opnd_nilp⟩, ⟨@opnd_str, ⟨@A.get_putP, @A.get_baseP⟩⟩⟩⟩⟩, ⟨⟨⟨⟨@L.get_consP, @L.get_setP⟩, ⟨@L.get_nilP, ⟨@tbit_eqP, @kept_true⟩⟩⟩, ⟨⟨@kept_false, @A.keep_put⟩, ⟨@A.keep_base, ⟨@A.flush_put, @A.flush_base⟩⟩⟩⟩, ⟨⟨⟨@putA_some, @putA_none⟩, ⟨@argsA_cons, ⟨@argsA_nil, @toC_vc⟩⟩⟩, ⟨⟨@toC_c, @toW_vc⟩, ⟨@toW_w, ⟨@toI_vc, @toI_c⟩⟩⟩⟩⟩⟩⟩, ⟨⟨⟨⟨⟨⟨@toB_vc, @toB_c⟩, ⟨@toP_vc, @toP_c⟩⟩, ⟨⟨@opC_tmp, @opW_tmp⟩, ⟨@opI_tmp, ⟨@opP_tmp, @opC_int⟩⟩⟩⟩, ⟨⟨⟨@opW_int, @opI_int⟩, ⟨@opW_bool, ⟨@opC_bool, @opW_nils⟩⟩⟩, ⟨⟨@opW_nilp, @opC_nils⟩, ⟨@opW_str, ⟨@rBin_eq, @rUn_eq⟩⟩⟩⟩⟩, ⟨⟨⟨⟨@rPick_eq, @rLen_eq⟩, ⟨@rIndexAddr_eq, @rFieldAddr_eq⟩⟩, ⟨⟨@rLoad_eq, @aAppend_eq⟩, ⟨@aApp_eq, ⟨@aStore_eq, @retU_some⟩⟩⟩⟩, ⟨⟨⟨@retCS_ok, @retW_some⟩, ⟨@retC_some, ⟨@b_lss, @b_leq⟩⟩⟩, ⟨⟨@b_gtr, @b_geq⟩, ⟨@b_eql, ⟨@b_neq, @b_add⟩⟩⟩⟩⟩⟩, ⟨⟨⟨⟨⟨@b_sub, @b_mul⟩, ⟨@b_seql, @b_sneq⟩⟩, ⟨⟨@u_not, @goR_nm⟩, ⟨@goR_ret, ⟨@resOf_nil, @resOf_cons⟩⟩⟩⟩, ⟨⟨⟨@resOne_tmp, @tupOf_one⟩, ⟨@guardOk_eq, ⟨@boolIs_t, @boolIs_f⟩⟩⟩, ⟨⟨@boolIs_t', @boolIs_f'⟩, ⟨@boolIs_skip, ⟨@nBox_eq, @rExtract_eq⟩⟩⟩⟩⟩, ⟨⟨⟨⟨@resOne_cell, @tupOf_two⟩, ⟨@cells_c, ⟨@cells_agg, @true_implies⟩⟩⟩, ⟨⟨@false_implies, @and_true⟩, ⟨@true_and, ⟨@Bool.not_false, @Bool.not_true⟩⟩⟩⟩, ⟨⟨⟨@Bool.true_eq_false, @Bool.false_eq_true⟩, ⟨@decide_eq_true_eq, ⟨@decide_eq_false_iff_not, @Bool.not_eq_true'⟩⟩⟩, ⟨⟨@Bool.not_eq_false', @decide_true⟩, ⟨@decide_false, ⟨@List.getElem?_cons_zero.{0}, @List.getElem?_cons_succ.{0}⟩⟩⟩⟩⟩⟩⟩⟩
theorem zGS : ((((type_of% @gsO_some) ∧ ((type_of% @gsS_some) ∧ (type_of% @gsG_tt))) ∧ ((type_of% @gsG_ff) ∧ ((type_of% @gs_nil) ∧ (type_of% @gs_guard)))) ∧ (((type_of% @gs_move) ∧ ((type_of% @gs_assign) ∧ (type_of% @gs_load))) ∧ (((type_of% @gs_len) ∧ (type_of% @gs_slice)) ∧ ((type_of% @gs_fieldAddr) ∧ (type_of% @gs_binOp))))) ∧ ((((type_of% @gs_pick) ∧ ((type_of% @gs_extract) ∧ (type_of% @gs_indexAddr))) ∧ ((type_of% @gs_unOp) ∧ ((type_of% @gs_index) ∧ (type_of% @gs_field)))) ∧ (((type_of% @sameV_int) ∧ ((type_of% @sameV_bool) ∧ (type_of% @sameV_str))) ∧ (((type_of% @sameV_toC) ∧ (type_of% @sameV_cells)) ∧ ((type_of% @sameV_int') ∧ (type_of% @sameV_str'))))) := ⟨⟨⟨⟨@gsO_some, ⟨@gsS_some, @gsG_tt⟩⟩, ⟨@gsG_ff, ⟨@gs_nil, @gs_guard⟩⟩⟩, ⟨⟨@gs_move, ⟨@gs_assign, @gs_load⟩⟩, ⟨⟨@gs_len, @gs_slice⟩, ⟨@gs_fieldAddr, @gs_binOp⟩⟩⟩⟩, ⟨⟨⟨@gs_pick, ⟨@gs_extract, @gs_indexAddr⟩⟩, ⟨@gs_unOp, ⟨@gs_index, @gs_field⟩⟩⟩, ⟨⟨@sameV_int, ⟨@sameV_bool, @sameV_str⟩⟩, ⟨⟨@sameV_toC, @sameV_cells⟩, ⟨@sameV_int', @sameV_str'⟩⟩⟩⟩⟩
theorem zEA : (((((type_of% @opnd_tmp) ∧ ((type_of% @opnd_int) ∧ (type_of% @opnd_bool))) ∧ (((type_of% @opnd_nils) ∧ (type_of% @opnd_nilp)) ∧ ((type_of% @opnd_str) ∧ (type_of% @A.get_putP)))) ∧ (((type_of% @A.get_baseP) ∧ ((type_of% @L.get_consP) ∧ (type_of% @L.get_setP))) ∧ (((type_of% @L.get_nilP) ∧ (type_of% @tbit_eqP)) ∧ ((type_of% @kept_true) ∧ (type_of% @kept_false))))) ∧ ((((type_of% @A.keep_put) ∧ ((type_of% @A.keep_base) ∧ (type_of% @A.flush_put))) ∧ (((type_of% @A.flush_base) ∧ (type_of% @putA_some)) ∧ ((type_of% @putA_none) ∧ (type_of% @argsA_cons)))) ∧ ((((type_of% @argsA_nil) ∧ (type_of% @toC_vc)) ∧ ((type_of% @toC_c) ∧ (type_of% @toW_vc))) ∧ (((type_of% @toW_w) ∧ (type_of% @toI_vc)) ∧ ((type_of% @toI_c) ∧ (type_of% @toB_vc)))))) ∧ (((((type_of% @toB_c) ∧ ((type_of% @toP_vc) ∧ (type_of% @toP_c))) ∧ (((type_of% @opC_tmp) ∧ (type_of% @opW_tmp)) ∧ ((type_of% @opI_tmp) ∧ (type_of% @opP_tmp)))) ∧ ((((type_of% @opC_int) ∧ (type_of% @opW_int)) ∧ ((type_of% @opI_int) ∧ (type_of% @opW_bool))) ∧ (((type_of% @opC_bool) ∧ (type_of% @opW_nils)) ∧ ((type_of% @opW_nilp) ∧ (type_of% @opC_nils))))) ∧ ((((type_of% @opW_str) ∧ ((type_of% @cells_c) ∧ (type_of% @cells_agg))) ∧ (((type_of% @Bool.not_false) ∧ (type_of% @Bool.not_true)) ∧ ((type_of% @Bool.true_eq_false) ∧ (type_of% @Bool.false_eq_true)))) ∧ ((((type_of% @decide_eq_true_eq) ∧ (type_of% @decide_eq_false_iff_not)) ∧ ((type_of% @Bool.not_eq_true') ∧ (type_of% @Bool.not_eq_false'))) ∧ (((type_of% @decide_true) ∧ (type_of% @decide_false)) ∧ ((type_of% @List.getElem?_cons_zero.{0}) ∧ (type_of% @List.getElem?_cons_succ.{0})))))) := ⟨⟨⟨⟨⟨@opnd_tmp, ⟨@opnd_int, @opnd_bool⟩⟩, ⟨⟨@opnd_nils, @opnd_nilp⟩, ⟨@opnd_str, @A.get_putP⟩⟩⟩, ⟨⟨@A.get_baseP, ⟨@L.get_consP, @L.get_setP⟩⟩, ⟨⟨@L.get_nilP, @tbit_eqP⟩, ⟨@kept_true, @kept_false⟩⟩⟩⟩, ⟨⟨⟨@A.keep_put, ⟨@A.keep_base, @A.flush_put⟩⟩, ⟨⟨@A.flush_base, @putA_some⟩, ⟨@putA_none, @argsA_cons⟩⟩⟩, ⟨⟨⟨@argsA_nil, @toC_vc⟩, ⟨@toC_c, @toW_vc⟩⟩, ⟨⟨@toW_w, @toI_vc⟩, ⟨@toI_c, @toB_vc⟩⟩⟩⟩⟩, ⟨⟨⟨⟨@toB_c, ⟨@toP_vc, @toP_c⟩⟩, ⟨⟨@opC_tmp, @opW_tmp⟩, ⟨@opI_tmp, @opP_tmp⟩⟩⟩, ⟨⟨⟨@opC_int, @opW_int⟩, ⟨@opI_int, @opW_bool⟩⟩, ⟨⟨@opC_bool, @opW_nils⟩, ⟨@opW_nilp, @opC_nils⟩⟩⟩⟩, ⟨⟨⟨@opW_str, ⟨@cells_c, @cells_agg⟩⟩, ⟨⟨@Bool.not_false, @Bool.not_true⟩, ⟨@Bool.true_eq_false, @Bool.false_eq_true⟩⟩⟩, ⟨⟨⟨@decide_eq_true_eq, @decide_eq_false_iff_not⟩, ⟨@Bool.not_eq_true', @Bool.not_eq_false'⟩⟩, ⟨⟨@decide_true, @decide_false⟩, ⟨@List.getElem?_cons_zero.{0}, @List.getElem?_cons_succ.{0}⟩⟩⟩⟩⟩⟩
theorem zDG : (((((type_of% @dg_nil) ∧ (type_of% @dg_guard)) ∧ ((type_of% @dg_move) ∧ ((type_of% @dg_assign) ∧ (type_of% @dg_load)))) ∧ (((type_of% @dg_len) ∧ ((type_of% @dg_slice) ∧ (type_of% @dg_fieldAddr))) ∧ ((type_of% @dg_indexAddr) ∧ ((type_of% @dg_binOp) ∧ (type_of% @dg_pick))))) ∧ ((((type_of% @dg_unOp) ∧ ((type_of% @dg_extract) ∧ (type_of% @dg_buildSlice))) ∧ ((type_of% @dg_alloc) ∧ ((type_of% @dg_store) ∧ (type_of% @dg_append)))) ∧ (((type_of% @dgO_some) ∧ ((type_of% @dgS_some) ∧ (type_of% @dgN_some))) ∧ ((type_of% @dgV_ok) ∧ ((type_of% @dgG_tt) ∧ (type_of% @dgG_ff)))))) ∧ (((((type_of% @backs_nil) ∧ (type_of% @backs_cons)) ∧ ((type_of% @fores_nil) ∧ ((type_of% @fores_cons) ∧ (type_of% @dt_nil)))) ∧ (((type_of% @dt_assign) ∧ ((type_of% @lor_eq) ∧ (type_of% @land_eq))) ∧ ((type_of% @shl_eq) ∧ ((type_of% @nbeq_eq) ∧ (type_of% @again_eq))))) ∧ ((((type_of% @V_same_toC) ∧ ((type_of% @V_same_dat) ∧ (type_of% @tbit_eqP))) ∧ ((type_of% @or_true) ∧ ((type_of% @true_or) ∧ (type_of% @or_false)))) ∧ (((type_of% @false_or) ∧ ((type_of% @List.take_succ_cons.{0}) ∧ (type_of% @List.take_zero.{0}))) ∧ ((type_of% @List.drop_succ_cons.{0}) ∧ ((type_of% @List.drop_zero.{0}) ∧ (type_of% @Nat.add_zero)))))) := ⟨⟨⟨⟨⟨@dg_nil, @dg_guard⟩, ⟨@dg_move, ⟨@dg_assign, @dg_load⟩⟩⟩, ⟨⟨@dg_len, ⟨@dg_slice, @dg_fieldAddr⟩⟩, ⟨@dg_indexAddr, ⟨@dg_binOp, @dg_pick⟩⟩⟩⟩, ⟨⟨⟨@dg_unOp, ⟨@dg_extract, @dg_buildSlice⟩⟩, ⟨@dg_alloc, ⟨@dg_store, @dg_append⟩⟩⟩, ⟨⟨@dgO_some, ⟨@dgS_some, @dgN_some⟩⟩, ⟨@dgV_ok, ⟨@dgG_tt, @dgG_ff⟩⟩⟩⟩⟩, ⟨⟨⟨⟨@backs_nil, @backs_cons⟩, ⟨@fores_nil, ⟨@fores_cons, @dt_nil⟩⟩⟩, ⟨⟨@dt_assign, ⟨@lor_eq, @land_eq⟩⟩, ⟨@shl_eq, ⟨@nbeq_eq, @again_eq⟩⟩⟩⟩, ⟨⟨⟨@V_same_toC, ⟨@V_same_dat, @tbit_eqP⟩⟩, ⟨@or_true, ⟨@true_or, @or_false⟩⟩⟩, ⟨⟨@false_or, ⟨@List.take_succ_cons.{0}, @List.take_zero.{0}⟩⟩, ⟨@List.drop_succ_cons.{0}, ⟨@List.drop_zero.{0}, @Nat.add_zero⟩⟩⟩⟩⟩⟩
theorem zDH : (((((type_of% @dg_nil) ∧ ((type_of% @dg_guard) ∧ (type_of% @dg_move))) ∧ ((type_of% @dg_assign) ∧ ((type_of% @dg_load) ∧ (type_of% @dg_len)))) ∧ (((type_of% @dg_slice) ∧ ((type_of% @dg_fieldAddr) ∧ (type_of% @dg_indexAddr))) ∧ ((type_of% @dg_binOp) ∧ ((type_of% @dg_pick) ∧ (type_of% @dg_unOp))))) ∧ ((((type_of% @dg_extract) ∧ ((type_of% @dg_buildSlice) ∧ (type_of% @dg_alloc))) ∧ ((type_of% @dg_store) ∧ ((type_of% @dg_append) ∧ (type_of% @dgO_some)))) ∧ (((type_of% @dgS_some) ∧ ((type_of% @dgN_some) ∧ (type_of% @dgV_ok))) ∧ ((type_of% @dgG_tt) ∧ ((type_of% @dgG_ff) ∧ (type_of% @backs_nil)))))) ∧ (((((type_of% @backs_cons) ∧ ((type_of% @fores_nil) ∧ (type_of% @fores_cons))) ∧ ((type_of% @dt_nil) ∧ ((type_of% @dt_assign) ∧ (type_of% @lor_eq)))) ∧ (((type_of% @land_eq) ∧ ((type_of% @shl_eq) ∧ (type_of% @nbeq_eq))) ∧ ((type_of% @again_eq) ∧ ((type_of% @V_same_toC) ∧ (type_of% @V_same_dat))))) ∧ ((((type_of% @tbit_eqP) ∧ ((type_of% @or_true) ∧ (type_of% @true_or))) ∧ ((type_of% @or_false) ∧ ((type_of% @false_or) ∧ (type_of% @List.take_succ_cons.{0})))) ∧ (((type_of% @List.take_zero.{0}) ∧ ((type_of% @List.drop_succ_cons.{0}) ∧ (type_of% @List.drop_zero.{0}))) ∧ (((type_of% @Nat.add_zero) ∧ (type_of% @dg_nilCheck)) ∧ ((type_of% @dg_index) ∧ (type_of% @dg_field)))))) := ⟨⟨⟨⟨⟨@dg_nil, ⟨@dg_guard, @dg_move⟩⟩, ⟨@dg_assign, ⟨@dg_load, @dg_len⟩⟩⟩, ⟨⟨@dg_slice, ⟨@dg_fieldAddr, @dg_indexAddr⟩⟩, ⟨@dg_binOp, ⟨@dg_pick, @dg_unOp⟩⟩⟩⟩, ⟨⟨⟨@dg_extract, ⟨@dg_buildSlice, @dg_alloc⟩⟩, ⟨@dg_store, ⟨@dg_append, @dgO_some⟩⟩⟩, ⟨⟨@dgS_some, ⟨@dgN_some, @dgV_ok⟩⟩, ⟨@dgG_tt, ⟨@dgG_ff, @backs_nil⟩⟩⟩⟩⟩, ⟨⟨⟨⟨@backs_cons, ⟨@fores_nil, @fores_cons⟩⟩, ⟨@dt_nil, ⟨@dt_assign, @lor_eq⟩⟩⟩, ⟨⟨@land_eq, ⟨@shl_eq, @nbeq_eq⟩⟩, ⟨@again_eq, ⟨@V_same_toC, @V_same_dat⟩⟩⟩⟩, ⟨⟨⟨@tbit_eqP, ⟨@or_true, @true_or⟩⟩, ⟨@or_false, ⟨@false_or, @List.take_succ_cons.{0}⟩⟩⟩, ⟨⟨@List.take_zero.{0}, ⟨@List.drop_succ_cons.{0}, @List.drop_zero.{0}⟩⟩, ⟨⟨@Nat.add_zero, @dg_nilCheck⟩, ⟨@dg_index, @dg_field⟩⟩⟩⟩⟩⟩
end Ev
