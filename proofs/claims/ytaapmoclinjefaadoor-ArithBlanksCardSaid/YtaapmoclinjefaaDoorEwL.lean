import Derived.Test.YtaapmoclinjefaaDoorEwK
set_option linter.unusedVariables false
set_option linter.unusedSimpArgs false
namespace Ev
open Go
/-! ### methods that turn their receiver -/
noncomputable def stM (ng : Nat) (ds : List D) : St := { h := T.nil.set ng (.row (mkRow (cellsD ds))), nx := ng + 1 }
theorem stM_get {ng : Nat} {ds : List D} {x : Nat} {y : Blk} (h : (stM ng ds).h.get x = some y) : x = ng ∧ y = .row (mkRow (cellsD ds)) := by
  have h : ((T.nil : T Blk).set ng (.row (mkRow (cellsD ds)))).get x = some y := h
  rw [T.get_set] at h
  split at h
  · rename_i e; cases h; exact ⟨e, rfl⟩
  · cases h
theorem stM_row (ng : Nat) (ds : List D) : (stM ng ds).h.get ng = some (.row (mkRow (cellsD ds))) := by
  show ((T.nil : T Blk).set ng (.row (mkRow (cellsD ds)))).get ng = _
  rw [T.get_set, if_pos rfl]
def MeLeaves (ρ : Mp) (p : Place) (w : World) (pv : PV) (ds' : List D) (u : Value) (w' : World) : Prop :=
  ∃ m' : Snap, ρ.m.le m' ∧ (∀ c i v, m' c i = some v → ρ.m c i = some v ∨ w.heap.size ≤ c) ∧ (∀ i, m' p.c i = none) ∧ Lies m' w'.heap ∧ PVRel m' pv u ∧
    (∃ arr e fz, w'.heap[p.c]? = some (.cells arr e fz) ∧ ∀ f', RowRel ⟨f', m'⟩ p (mkRow (cellsD ds')) arr fz) ∧ (∀ c, c < w.heap.size → p.c ≠ c → w'.heap[c]? = w.heap[c]?) ∧ w.heap.size ≤ w'.heap.size ∧ Same w w'
def MeOk (P : Program) (f : Nat) (F : List D → List PW → Option (PV × List D)) : Prop :=
  ∀ (ρ : Mp) (w : World) (vals : Array Value) (ds : List D) (ps : List PW) (pv : PV) (ds' : List D), HRel ρ (stM P.globals.size ds).h.get (P.globals.size + 1) w.heap → GOk P.globals.size ρ → F ds ps = some (pv, ds') → ds'.length = ds.length →
    All2 (WRel ρ) (.c (.ptr P.globals.size 0) :: ps.map PW.toW) vals.toList →
    (callFunc f vals).run P w = .ok (.enter f vals) w ∧ Calls P f vals w (fun e w' => ∃ u p, e = .returned u ∧ ρ P.globals.size = some p ∧ MeLeaves ρ p w pv ds' u w')

theorem meRow_some {s : St} {b : Nat} {l : List C} (h : meRow s b = some l) : ∃ q n, s.h.get b = some (.row ⟨q, n, true, 0, []⟩) ∧ q.getL n 0 = some l := by
  unfold meRow at h
  split at h
  · rename_i q n e; exact ⟨q, n, e, h⟩
  · cases h
theorem frzV_ok' {ρ : Mp} {look : Look} {nx : Nat} {H : Array Obj} (h : HRel ρ look nx H) {x : V} {d : PV} {bs : List Nat} (hf : frzV look x = some (d, bs)) :
    Leafs look bs ∧ ∀ bs', (∀ b ∈ bs, b ∈ bs') → ∀ v, VRel ρ x v → PVRel (snapOf ρ H bs') d v := by
  cases x with
  | w x =>
    simp only [frzV] at hf
    split at hf
    · rename_i d' b' e
      cases hf
      obtain ⟨g1, g2⟩ := frzW_ok h e
      exact ⟨g1, fun bs' hb v hv => g2 _ hb v hv⟩
    · cases hf
  | tup l =>
    simp only [frzV] at hf
    split at hf
    · rename_i d' b' e
      cases hf
      obtain ⟨g1, g2⟩ := frzWs_ok h _ _ _ e
      refine ⟨g1, fun bs' hb v hv => ?_⟩
      obtain ⟨a, rfl, hl⟩ := hv
      exact ⟨a, rfl, g2 _ hb _ hl⟩
    · cases hf
  | un => cases hf

/-- the receiver's row, related anew -/
theorem row_again {ρ ρ' : Mp} {p : Place} {q : T C} {n : Nat} {arr : Array Value} {fz : Nat × Nat} {l : List C} {ds : List D} {m : Snap} (h : RowRel ρ p ⟨q, n, true, 0, []⟩ arr fz) (hl : q.getL n 0 = some l) (hlen : l.length = ds.length)
    (hd : ∀ vs, LRel ρ l vs → All2 (DRel m) ds vs) (hm : ρ'.m = m) : RowRel ρ' p (mkRow (cellsD ds)) arr fz := by
  obtain ⟨vs, g1, g2, g3⟩ := getL_rel h (by show 0 + n ≤ n; omega) hl
  have hn : l.length = n := (T.getL_some hl).1
  have hcn : (mkRow (cellsD ds)).n = n := by
    show lenA (cellsD ds) 0 = n
    rw [lenA_zero, cellsD, List.length_map, ← hlen, hn]
  have hrel := cellsD_rel (ρ := ρ') (by rw [hm]; exact hd vs g1)
  refine ⟨h.tot, hcn.trans h.kn, ?_, Nat.zero_le _, ?_, fun _ => h.free rfl, fun _ _ => h.mark rfl rfl⟩
  · rw [hcn]; exact h.le
  · intro i x hi hx
    rw [hcn] at hi
    have hx : (T.ofL (cellsD ds)).get i = some x := hx
    rw [T.get_ofL] at hx
    obtain ⟨v, k1, k2⟩ := hrel.get hx
    have := g3 i hi
    rw [Nat.add_zero] at this
    exact ⟨v, this.trans k1, k2⟩

def Mp.me (ρ : Mp) (ng b : Nat) (m : Snap) : Mp := ⟨fun g => if g < ng then ρ g else if g = ng then ρ b else none, m⟩
theorem Mp.me_at (ρ : Mp) (ng b : Nat) (m : Snap) (g : Nat) : (ρ.me ng b m) g = if g < ng then ρ g else if g = ng then ρ b else none := rfl

section
variable {P : Program} {kps : List (Nat × Nat)} {exts : List (Nat × Ext)}
theorem ext_me {f : Nat} {F : List D → List PW → Option (PV × List D)} (hp : MeOk P f F) : ExtOne P P.globals.size f (.me F []) := by
  intro args s v s' ρ w vals h hg hr hv
  left
  have hr : extMe F args s = .ok v s' := hr
  unfold extMe at hr
  split at hr
  · rename_i _ b rest _
    split at hr
    · cases hr
    · rename_i l hme
      split at hr
      · cases hr
      · rename_i ds bs hds
        split at hr
        · cases hr
        · rename_i ps bs' hps
          split at hr
          · cases hr
          · rename_i hnb
            split at hr
            · cases hr
            · rename_i pv ds' hF
              split at hr
              · rename_i hlen
                cases hr
                clear hr
                have hlen : ds'.length = ds.length := by
                  have := Nat.eq_of_beq_eq_true hlen
                  rwa [lenA_zero, lenA_zero] at this
                have hnb : b ∉ bs ++ bs' := fun hb => by
                  rw [(natIn_iff _ _).2 hb] at hnb; cases hnb
                obtain ⟨q, n, hrow, hq⟩ := meRow_some hme
                obtain ⟨f1, f2, f3⟩ := mapO_frz h _ _ _ _ hds
                obtain ⟨f4, f5⟩ := frzWs_ok h _ _ _ hps
                have hlf : Leafs s.h.get (bs ++ bs') := fun x hx => (List.mem_append.1 hx).elim (f1 x) (f4 x)
                have p1 := Post.sealed h hlf
                have h1 := p1.rel
                have hrow1 : (sealS s (bs ++ bs')).h.get b = some (.row ⟨q, n, true, 0, []⟩) := by
                  show (kill s.h (bs ++ bs')).get b = _
                  rw [kill_get, if_neg hnb]; exact hrow
                obtain ⟨p, o, g1, g2, g3⟩ := h.blk b _ hrow rfl
                obtain ⟨arr, e, fz, rfl, g4⟩ := g3
                generalize hm1 : snapOf ρ w.heap (bs ++ bs') = m1 at *
                have hno1 : ∀ i, m1 p.c i = none := fun i => by
                  cases hz : m1 p.c i with
                  | none => rfl
                  | some v => exact (h1.away b _ p hrow1 rfl g1 i v hz).elim
                have hrr : RowRel (ρ.me P.globals.size b m1) p (mkRow (cellsD ds)) arr fz := row_again g4 hq f2 (fun vs hvs => by
                  have := f3 (bs ++ bs') (fun x hx => List.mem_append_left _ hx) vs hvs
                  rw [hm1] at this; exact this) rfl
                have hat : (ρ.me P.globals.size b m1) P.globals.size = some p := by
                  rw [Mp.me_at, if_neg (Nat.lt_irrefl _), if_pos rfl]; exact g1
                have h2 : HRel (ρ.me P.globals.size b m1) (stM P.globals.size ds).h.get (P.globals.size + 1) w.heap := by
                  refine ⟨h1.lies, ?_, ?_, ?_, ?_⟩
                  · intro x y r hx hw hr i v hm
                    obtain ⟨rfl, rfl⟩ := stM_get hx
                    rw [hat] at hr; cases hr
                    have hm : m1 p.c i = some v := hm
                    rw [hno1] at hm; cases hm
                  · intro x r hx
                    rw [Mp.me_at] at hx
                    split at hx
                    · omega
                    · split at hx
                      · omega
                      · cases hx
                  · intro x y hx ha
                    obtain ⟨rfl, rfl⟩ := stM_get hx
                    exact ⟨p, _, hat, g2, arr, e, fz, rfl, hrr⟩
                  · intro x y x' y' r r' hx hw hx' ha hne
                    exact absurd ((stM_get hx').1.trans (stM_get hx).1.symm) hne
                have hgok : GOk P.globals.size (ρ.me P.globals.size b m1) := fun g hlt => by
                  obtain ⟨r, k1, k2⟩ := hg g hlt
                  exact ⟨r, by rw [Mp.me_at, if_pos hlt]; exact k1, k2⟩
                have hargs : All2 (WRel (ρ.me P.globals.size b m1)) (.c (.ptr P.globals.size 0) :: ps.map PW.toW) vals.toList := by
                  generalize vals.toList = vl at hv
                  cases hv with
                  | cons hv1 hv2 =>
                    have hr2 := f5 (bs ++ bs') (fun x hx => List.mem_append_right _ hx) _ hv2
                    rw [hm1] at hr2
                    refine .cons ?_ (toWs_relP (ρ := ρ.me P.globals.size b m1) hr2)
                    have hv1 : PtrRel ρ (b, 0) _ := hv1
                    show PtrRel (ρ.me P.globals.size b m1) (P.globals.size, 0) _
                    unfold PtrRel at hv1 ⊢
                    simp only [Mp.me_at, Nat.lt_irrefl, if_false, if_true]
                    exact hv1
                have := hp _ w vals ds ps pv ds' h2 hgok hF hlen hargs
                refine ⟨this.1, Calls.mono this.2 ?_⟩
                rintro ee w' ⟨u, p', rfl, hp', m', l1, l2, l0, l3, l4, ⟨arr', e', fz', l7, l8⟩, l5, l6, l9⟩
                rw [hat] at hp'; cases hp'
                have hplt : p.c < w.heap.size := (Array.getElem?_eq_some_iff.1 g2).1
                refine ⟨u, rfl, ⟨ρ.f, m'⟩, ⟨p1.trans (s1 := sealS s (bs ++ bs')) (ρ1 := ⟨ρ.f, m1⟩) ?_, l9⟩, toV_relP l4⟩
                have hget : ∀ x, ((kill s.h (bs ++ bs')).set b (.row (mkRow (cellsD ds')))).get x = if x = b then some (.row (mkRow (cellsD ds'))) else (sealS s (bs ++ bs')).h.get x := fun x => by
                  rw [T.get_set]; rfl
                have hap : ∀ x y r, (sealS s (bs ++ bs')).h.get x = some y → alive y = true → x ≠ b → ρ.f x = some r → p.c ≠ r.c := by
                  intro x y r hx ha hne hr hc
                  obtain ⟨r1, r2, s1, s2, s3, s4, s5⟩ := h1.apart b _ x y p r hrow1 rfl hx ha hne g1 hr hc
                  cases s1
                  cases s5
                refine ⟨l1, ?_, fun _ _ => rfl, Nat.le_refl _, ⟨l3, ?_, h1.dom, ?_, ?_⟩, l6, ?_, ?_, ?_⟩
                · intro c i v hm
                  rcases l2 c i v hm with g | g
                  · exact .inl g
                  · exact .inr (.inl g)
                · intro x y r hx hw hr i v hm
                  rw [hget] at hx
                  have hr : ρ.f x = some r := hr
                  split at hx
                  · rename_i ex
                    subst ex
                    have hr : ρ x = some r := hr
                    rw [g1] at hr; cases hr
                    have hm : m' p.c i = some v := hm
                    rw [l0] at hm; cases hm
                  · rcases l2 _ _ _ hm with g | g
                    · exact h1.away x y r hx hw hr i v g
                    · obtain ⟨r', o', k1, k2, _⟩ := h1.blk x y hx (wr_alive hw)
                      have k1 : ρ.f x = some r' := k1
                      rw [hr] at k1; cases k1
                      have := (Array.getElem?_eq_some_iff.1 k2).1
                      omega
                · intro x y hx ha
                  rw [hget] at hx
                  split at hx
                  · rename_i ex
                    cases hx
                    subst ex
                    exact ⟨p, _, g1, l7, arr', e', fz', rfl, l8 _⟩
                  · rename_i ex
                    obtain ⟨r', o', k1, k2, k3⟩ := h1.blk x y hx ha
                    exact ⟨r', o', k1, by rw [l5 _ (Array.getElem?_eq_some_iff.1 k2).1 (hap x y r' hx ha ex k1)]; exact k2, k3.mono (show (⟨ρ.f, m1⟩ : Mp).le ⟨ρ.f, m'⟩ from ⟨fun _ _ h => h, l1⟩)⟩
                · intro x y x' y' r r' hx hw hx' ha hne hr hr' hc
                  rw [hget] at hx hx'
                  split at hx
                  · rename_i ex
                    split at hx'
                    · rename_i ex'; exact absurd (ex'.trans ex.symm) hne
                    · rename_i ex'
                      subst ex
                      have hr : ρ x = some r := hr
                      rw [g1] at hr; cases hr
                      exact absurd hc (hap x' y' r' hx' ha ex' hr')
                  · rename_i ex
                    split at hx'
                    · rename_i ex'
                      subst ex'
                      have hr' : ρ x' = some r' := hr'
                      rw [g1] at hr'; cases hr'
                      exact absurd hc.symm (hap x y r hx (wr_alive hw) ex hr)
                    · exact h1.apart x y x' y' r r' hx hw hx' ha hne hr hr' hc
                · intro c hc hno
                  exact l5 c hc (hno b _ p hrow1 rfl g1)
                · intro x y r hx hw hr _
                  rw [hget] at hx
                  split at hx
                  · rename_i ex
                    subst ex
                    exact ⟨x, _, r, hrow1, rfl, hr, rfl⟩
                  · exact ⟨x, y, r, hx, hw, hr, rfl⟩
                · intro x y r hx ha hr _
                  rw [hget] at hx
                  split at hx
                  · rename_i ex
                    subst ex
                    exact ⟨x, _, r, hrow1, rfl, hr, rfl⟩
                  · exact ⟨x, y, r, hx, ha, hr, rfl⟩
              · cases hr
  · cases hr
end

/-! the receiver's walk -/
section
variable {P : Program} {kps : List (Nat × Nat)} {exts : List (Nat × Ext)}
theorem run_calls2 (hany : P.follows .mixedOrders = true) (ht : typesOk P = true) (hk : kps.all (fun p => fnOk P p.1) = true) (hx : ∀ p ∈ exts, ExtOne P P.globals.size p.1 p.2) {lf n f : Nat} {args : List W} {s s' : St} {v : V} {ρ : Mp} {w : World} {vals : Array Value}
    (hf : ∀ x, (pairT exts .nil).get f = some x → extF x args s = .no) (h : HRel ρ s.h.get s.nx w.heap) (hg : GOk P.globals.size ρ) (hr : runF (envOf P exts kps) lf (n + 1) f args s = .ok v s') (hv : All2 (WRel ρ) args vals.toList) :
    (callFunc f vals).run P w = .ok (.enter f vals) w ∧ Calls P f vals w (fun e w' => ∃ u, e = .returned u ∧ Done ρ s w v s' u w') := by
  replace hr : (@Option.rec Ext (fun _ => VS) (@Option.rec Nat (fun _ => VS) .no (fun ks => @Option.rec Func (fun _ => VS) .no (fun fn => runB (envOf P exts kps) (runF (envOf P exts kps) lf n) lf ks fn args s) ((envOf P exts kps).fns.get f)) ((envOf P exts kps).kps.get f))
    (fun x => @VS.rec (fun _ => VS) (fun v s' => .ok v s') (@Option.rec Nat (fun _ => VS) .no (fun ks => @Option.rec Func (fun _ => VS) .no (fun fn => runB (envOf P exts kps) (runF (envOf P exts kps) lf n) lf ks fn args s) ((envOf P exts kps).fns.get f)) ((envOf P exts kps).kps.get f)) (extF x args s)) ((envOf P exts kps).ext.get f)) = .ok v s' := hr
  have hr : (@Option.rec Nat (fun _ => VS) .no (fun ks => @Option.rec Func (fun _ => VS) .no (fun fn => runB (envOf P exts kps) (runF (envOf P exts kps) lf n) lf ks fn args s) ((envOf P exts kps).fns.get f)) ((envOf P exts kps).kps.get f)) = .ok v s' := by
    cases hfe : (envOf P exts kps).ext.get f with
    | none => rw [hfe] at hr; exact hr
    | some x =>
      rw [hfe] at hr
      simp only [] at hr
      rw [hf x hfe] at hr
      exact hr
  have hE := envOf_ok P exts kps hany ht
  have hc := runF_ok hE (kps_ok P exts kps hk) (extOk_of exts kps hx) (fun call hc => draw_sound hE hc) (itOk_of exts kps hx) lf n
  cases hks : (envOf P exts kps).kps.get f with
  | none => rw [hks] at hr; cases hr
  | some ks =>
    rw [hks] at hr
    simp only [] at hr
    cases hfn : (envOf P exts kps).fns.get f with
    | none => rw [hfn] at hr; cases hr
    | some fn =>
      rw [hfn] at hr
      exact runB_ok hE (kps_ok P exts kps hk) hc (draw_sound hE hc) (itOk_of exts kps hx) hks hfn hr h hg hv

theorem me_of_run (hany : P.follows .mixedOrders = true) (ht : typesOk P = true) (hk : kps.all (fun p => fnOk P p.1) = true) (hx : ∀ p ∈ exts, ExtOne P P.globals.size p.1 p.2) {f : Nat} (F : List D → List PW → Option (PV × List D))
    (hrun : ∀ ds ps pv ds', F ds ps = some (pv, ds') → (∀ x, (pairT exts .nil).get f = some x → extF x (.c (.ptr P.globals.size 0) :: ps.map PW.toW) (stM P.globals.size ds) = .no) ∧
      ∃ lf n v s' bs l' bs2, runF (envOf P exts kps) lf (n + 1) f (.c (.ptr P.globals.size 0) :: ps.map PW.toW) (stM P.globals.size ds) = .ok v s' ∧ frzV s'.h.get v = some (pv, bs) ∧ P.globals.size ∉ bs ∧
        LRow s' P.globals.size l' ∧ mapO (frzC s'.h.get 2000) l' = some (ds', bs2) ∧ P.globals.size ∉ bs2) : MeOk P f F := by
  intro ρ w vals ds ps pv ds' h hg hF hlen hps
  obtain ⟨hno, lf, n, v, s', bs, l', bs2, hr, hz, hb1, hrow, hz2, hb2⟩ := hrun ds ps pv ds' hF
  have := run_calls2 hany ht hk hx hno h hg hr hps
  refine ⟨this.1, Calls.mono this.2 ?_⟩
  rintro e w' ⟨u, rfl, ρ', ⟨hp, hsm⟩, hv⟩
  obtain ⟨p0, o0, k1, k2, _⟩ := h.blk P.globals.size _ (stM_row _ _) rfl
  have k1' : ρ' P.globals.size = some p0 := by rw [hp.ext _ (Nat.lt_succ_self _)]; exact k1
  have hplt : p0.c < w.heap.size := (Array.getElem?_eq_some_iff.1 k2).1
  obtain ⟨f1, f2⟩ := frzV_ok' hp.rel hz
  obtain ⟨f3, f4, f5⟩ := mapO_frz hp.rel _ _ _ _ hz2
  obtain ⟨q, hat, hq⟩ := hrow.at_
  have hql : q.getL l'.length 0 = some l' := T.getL_of rfl fun j hj => by rw [Nat.zero_add]; exact hq j hj
  have hlf : ∀ x ∈ bs ++ bs2, ∃ r, s'.h.get x = some (.row r) ∧ r.leaf = true := fun x hx => (List.mem_append.1 hx).elim (f1 x) (f3 x)
  have hnb : P.globals.size ∉ bs ++ bs2 := fun hx => (List.mem_append.1 hx).elim hb1 hb2
  have hap : ∀ x ∈ bs ++ bs2, ∀ r, ρ' x = some r → p0.c ≠ r.c := by
    intro x hx r hr hc
    obtain ⟨rr, hrr, hleaf⟩ := hlf x hx
    obtain ⟨r1, r2, s1, s2, s3, s4, s5⟩ := hp.rel.apart _ _ x _ p0 r hat rfl hrr rfl (fun e => hnb (e ▸ hx)) k1' hr hc
    cases s1
    cases s5
  refine ⟨u, p0, rfl, k1, snapOf ρ' w'.heap (bs ++ bs2), Snap.le_trans hp.m (snapOf_le hp.rel.lies), ?_, ?_, snapOf_lies hp.rel.lies, f2 _ (fun x hx => List.mem_append_left _ hx) u hv, ?_, ?_, hp.sz, hsm⟩
  · intro c i v hm
    rcases snapOf_new hm with g | ⟨b, hb, r, hbr, hc⟩
    · rcases hp.mn c i v g with g | g | ⟨b, x, r, y1, y2, y3, y4⟩
      · exact .inl g
      · exact .inr g
      · obtain ⟨rfl, rfl⟩ := stM_get y1
        rw [k1] at y3; cases y3
        subst y4
        exact (hp.rel.away _ _ p0 hat rfl k1' i v g).elim
    · obtain ⟨rr, hrr, hleaf⟩ := hlf b hb
      rcases Nat.lt_or_ge c w.heap.size with g | g
      · obtain ⟨b0, x0, r0, y1, y2, y3, y4⟩ := hp.wrs b _ r hrr hleaf hbr (by omega)
        obtain ⟨rfl, rfl⟩ := stM_get y1
        rw [k1] at y3; cases y3
        exact absurd y4 (hap b hb r hbr)
      · exact .inr g
  · intro i
    cases hm : snapOf ρ' w'.heap (bs ++ bs2) p0.c i with
    | none => rfl
    | some v =>
      rcases snapOf_new hm with g | ⟨b, hb, r, hbr, hc⟩
      · exact (hp.rel.away _ _ p0 hat rfl k1' i v g).elim
      · exact absurd hc.symm (hap b hb r hbr)
  · obtain ⟨p1, o1, m1, m2, arr, e1, fz, rfl, m3⟩ := hp.rel.blk _ _ hat rfl
    rw [k1'] at m1; cases m1
    refine ⟨arr, e1, fz, m2, fun f' => row_again m3 hql f4 (fun vs hvs => f5 (bs ++ bs2) (fun x hx => List.mem_append_right _ hx) vs hvs) rfl⟩
  · intro c hc hne
    refine hp.frame c hc fun b x r y1 y2 y3 y4 => ?_
    obtain ⟨rfl, rfl⟩ := stM_get y1
    rw [k1] at y3; cases y3
    exact hne y4

noncomputable def ofM (R : List D → List PW → PV × List D → Prop) : List D → List PW → Option (PV × List D) := fun ds ps => open Classical in if h : ∃ v, R ds ps v then some (Classical.choose h) else none
theorem ofM_some {R : List D → List PW → PV × List D → Prop} {ds : List D} {ps : List PW} {v : PV × List D} (h : ofM R ds ps = some v) : R ds ps v := by
  unfold ofM at h
  split at h
  · rename_i he; cases h; exact Classical.choose_spec he
  · cases h
theorem ofM_eq {R : List D → List PW → PV × List D → Prop} {ds : List D} {ps : List PW} {v : PV × List D} (h : R ds ps v) (hu : ∀ v', R ds ps v' → v' = v) : ofM R ds ps = some v := by
  unfold ofM
  have he : ∃ v, R ds ps v := ⟨v, h⟩
  rw [dif_pos he, hu _ (Classical.choose_spec he)]
theorem ofM_none {R : List D → List PW → PV × List D → Prop} {ds : List D} {ps : List PW} (h : ∀ v, ¬ R ds ps v) : ofM R ds ps = none := by
  unfold ofM
  rw [dif_neg (fun ⟨v, hv⟩ => h v hv)]
/-- a method's contract by its walk; it may call itself, if its contract doesn't speak of this receiver -/
theorem me_goE (hany : P.follows .mixedOrders = true) (ht : typesOk P = true) (hk : kps.all (fun p => fnOk P p.1) = true) (hx : OksE P exts) {f : Nat} (R : List D → List PW → PV × List D → Prop)
    (hf : ∀ ds ps v, R ds ps v → ∀ x, (pairT exts .nil).get f = some x → extF x (.c (.ptr P.globals.size 0) :: ps.map PW.toW) (stM P.globals.size ds) = .no)
    (h : ∀ ds ps pv ds', R ds ps (pv, ds') → goC (envOf P exts kps) f (.c (.ptr P.globals.size 0) :: ps.map PW.toW) (stM P.globals.size ds) fun v s' => ∃ bs l' bs2, frzV s'.h.get v = some (pv, bs) ∧ P.globals.size ∉ bs ∧
        LRow s' P.globals.size l' ∧ mapO (frzC s'.h.get 2000) l' = some (ds', bs2) ∧ P.globals.size ∉ bs2) : OkE P (f, .me (ofM R) []) := by
  refine ext_me (me_of_run hany ht hk hx _ fun ds ps pv ds' hF => ⟨hf ds ps _ (ofM_some hF), ?_⟩)
  obtain ⟨v, s', ⟨N, hN⟩, bs, l', bs2, hz⟩ := h ds ps pv ds' (ofM_some hF)
  exact ⟨N, N, v, s', bs, l', bs2, hN N (N + 1) (Nat.le_refl _) (Nat.le_succ _), hz⟩
end
section
variable {E : Env} {f ks : Nat} {args : List W} {s : St}
theorem extMe_plain {F : List D → List PW → Option (PV × List D)} {b : Nat} {ds : List D} {ps : List PW} (hr : LRow s b (cellsD ds)) (hd : ds.all D.plain = true) (hp : ps.all PW.plain = true) : extMe F (.c (.ptr b 0) :: ps.map PW.toW) s = match F ds ps with
    | none => .no
    | some (v, ds') => match Nat.beq ds'.length ds.length with
      | true => .ok v.toV ⟨s.h.set b (.row (mkRow (cellsD ds'))), s.nx⟩
      | false => .no := by
  obtain ⟨q, h1, h2⟩ := hr.at_
  have hq : q.getL (cellsD ds).length 0 = some (cellsD ds) := T.getL_of rfl fun j hj => by rw [Nat.zero_add]; exact h2 j hj
  have hme : meRow s b = some (cellsD ds) := by unfold meRow; rw [h1]; exact hq
  unfold extMe
  simp only [hme, mapO_plain _ 2000 ds hd, frzWs_plain _ ps hp, List.append_nil, natIn]
  cases F ds ps with
  | none => rfl
  | some r =>
    obtain ⟨v, ds'⟩ := r
    simp only [lenA_zero]
    rfl
theorem callR_me {R : List D → List PW → PV × List D → Prop} {b : Nat} {ds ds' : List D} {ps : List PW} {pv : PV} (hx : E.ext.get f = some (.me (ofM R) [])) (hr : LRow s b (cellsD ds)) (hd : ds.all D.plain = true) (hp : ps.all PW.plain = true)
    (hR : R ds ps (pv, ds')) (hu : ∀ v, R ds ps v → v = (pv, ds')) (hl : ds'.length = ds.length) : ∃ s2, CallR E f (.c (.ptr b 0) :: ps.map PW.toW) s pv.toV s2 ∧ LRow s2 b (cellsD ds') ∧ s2.nx = s.nx ∧ ∀ x, x ≠ b → s2.h.get x = s.h.get x := by
  refine ⟨⟨s.h.set b (.row (mkRow (cellsD ds'))), s.nx⟩, callR_ext hx ?_, LRow.of_rowB ?_, rfl, fun x hne => T.get_set_ne _ _ hne⟩
  · show extMe (ofM R) (.c (.ptr b 0) :: ps.map PW.toW) s = _
    rw [extMe_plain hr hd hp, ofM_eq hR hu]
    simp only [hl, Nat.beq_refl]
  · show (s.h.set b _).get b = _
    rw [T.get_set, if_pos rfl, mkRow_rowB]
theorem ext_me_no {R : List D → List PW → PV × List D → Prop} {b : Nat} {ds : List D} {ps : List PW} (hr : LRow s b (cellsD ds)) (hd : ds.all D.plain = true) (hp : ps.all PW.plain = true) (h : ∀ v, ¬ R ds ps v) : extF (.me (ofM R) []) (.c (.ptr b 0) :: ps.map PW.toW) s = .no := by
  show extMe (ofM R) (.c (.ptr b 0) :: ps.map PW.toW) s = _
  rw [extMe_plain hr hd hp, ofM_none h]
theorem stM_LRow (ng : Nat) (ds : List D) : LRow (stM ng ds) ng (cellsD ds) := LRow.of_rowB (by rw [stM_row, mkRow_rowB])

theorem callR_bodyN {fn : Func} {c : Code} {v : V} {s' : St} (hx : ∀ x, E.ext.get f = some x → extF x args s = .no) (hk : E.kps.get f = some ks) (hf : E.fns.get f = some fn) (hb : fn.body = some c) (ha : argsKept ks (lenA args 0) = true)
    (h : go E ks [.c c] (.base 0 ((argsA args 0).get 0) (argsA args 0)) s fun e a' s2 => (∀ i, e ≠ .ex i) ∧ resL (resOf E a' s2 fn.results.toList) s2 = .ok v s') : CallR E f args s v s' := by
  obtain ⟨e, a', s2, N, hN, he, hr⟩ := h
  refine ⟨N + 1, fun lf n h1 h2 => ?_⟩
  obtain ⟨n, rfl⟩ : ∃ m, n = m + 1 := ⟨n - 1, by omega⟩
  show (@Option.rec Ext (fun _ => VS) (@Option.rec Nat (fun _ => VS) .no (fun ks => @Option.rec Func (fun _ => VS) .no (fun fn => runB E (runF E lf n) lf ks fn args s) (E.fns.get f)) (E.kps.get f))
    (fun x => @VS.rec (fun _ => VS) (fun v s' => .ok v s') (@Option.rec Nat (fun _ => VS) .no (fun ks => @Option.rec Func (fun _ => VS) .no (fun fn => runB E (runF E lf n) lf ks fn args s) (E.fns.get f)) (E.kps.get f)) (extF x args s)) (E.ext.get f)) = _
  have hbody : runB E (runF E lf n) lf ks fn args s = .ok v s' := by
    unfold runB
    rw [hb, ha]
    have := hN lf n (by omega) (by omega)
    simp only [runK, andThen_nm] at this
    simp only [this]
    unfold resR
    cases e with
    | nm => exact hr
    | ex i => exact absurd rfl (he i)
    | ret => exact hr
  cases hxf : E.ext.get f with
  | none => simp only [hk, hf]; exact hbody
  | some x => simp only [hx x hxf, hk, hf]; exact hbody
theorem goC_bodyN {fn : Func} {c : Code} {K : V → St → Prop} (hx : ∀ x, E.ext.get f = some x → extF x args s = .no) (hk : E.kps.get f = some ks) (hf : E.fns.get f = some fn) (hb : fn.body = some c) (ha : argsKept ks (lenA args 0) = true)
    (h : go E ks [.c c] (.base 0 ((argsA args 0).get 0) (argsA args 0)) s (goR E fn.results.toList K)) : goC E f args s K := by
  obtain ⟨e, a', s2, N, hN, hr⟩ := h
  unfold goR at hr
  have : ∃ l, (∀ i, e ≠ .ex i) ∧ resOf E a' s2 fn.results.toList = some l ∧ K (tupOf l) s2 := by
    cases e with
    | ex i => exact hr.elim
    | nm =>
      simp only [] at hr
      split at hr
      · rename_i l hl; exact ⟨l, fun i h => (by cases h), hl, hr⟩
      · exact hr.elim
    | ret =>
      simp only [] at hr
      split at hr
      · rename_i l hl; exact ⟨l, fun i h => (by cases h), hl, hr⟩
      · exact hr.elim
  obtain ⟨l, h1, h2, h3⟩ := this
  exact ⟨_, _, callR_bodyN hx hk hf hb ha ⟨e, a', s2, N, hN, h1, by rw [h2]; rfl⟩, h3⟩
end
end Ev

namespace Ev
open Go
/-! short names of the step lemmas (a claim has 1.5 MB) -/
theorem zaa : type_of% @go_seq := @go_seq
theorem zab : type_of% @go_region := @go_region
theorem zac : type_of% @go_move := @go_move
theorem zad : type_of% @go_assign := @go_assign
theorem zae : type_of% @go_len := @go_len
theorem zaf : type_of% @go_binOp := @go_binOp
theorem zag : type_of% @go_block := @go_block
theorem zah : type_of% @go_scope := @go_scope
theorem zai : type_of% @go_label := @go_label
theorem zaj : type_of% @go_skip := @go_skip
theorem zak : type_of% @go_exit := @go_exit
theorem zal : type_of% @go_ret := @go_ret
theorem zam : type_of% @go_ops_nil := @go_ops_nil
theorem zan : type_of% @go_load := @go_load
theorem zao : type_of% @go_fieldAddr := @go_fieldAddr
theorem zap : type_of% @go_unOp := @go_unOp
theorem zaq : type_of% @go_pick := @go_pick
theorem zar : type_of% @go_indexAddr := @go_indexAddr
theorem zas : type_of% @go_slice := @go_slice
theorem zat : type_of% @go_append := @go_append
theorem zau : type_of% @go_alloc := @go_alloc
theorem zav : type_of% @go_box := @go_box
theorem zaw : type_of% @go_store := @go_store
theorem zax : type_of% @go_buildSlice := @go_buildSlice
theorem zay : type_of% @go_index := @go_index
theorem zaz : type_of% @go_field := @go_field
theorem zba : type_of% @go_extract := @go_extract
theorem zbb : type_of% @go_build := @go_build
theorem zbc : type_of% @go_nilCheck := @go_nilCheck
theorem zbd : type_of% @go_lookup := @go_lookup
theorem zbe : type_of% @go_mapUpdate := @go_mapUpdate
theorem zbf : type_of% @go_nil := @go_nil
theorem zbg : type_of% @goE_nil := @goE_nil
theorem zbh : type_of% @goE_nm := @goE_nm
theorem zbi : type_of% @goE_ex_c := @goE_ex_c
theorem zbj : type_of% @goE_ret_c := @goE_ret_c
theorem zbk : type_of% @goE_ex_b := @goE_ex_b
theorem zbl : type_of% @goE_ret_b := @goE_ret_b
theorem zbm : type_of% @go_guard := @go_guard
theorem zbn : type_of% @go_cond := @go_cond
theorem zbo : type_of% @goB_tt := @goB_tt
theorem zbp : type_of% @goB_ff := @goB_ff
theorem zbq : type_of% @goG_tt := @goG_tt
theorem zbr : type_of% @goG_ff := @goG_ff
theorem zbs : type_of% @gsO_some := @gsO_some
theorem zbt : type_of% @gsS_some := @gsS_some
theorem zbu : type_of% @gsG_tt := @gsG_tt
theorem zbv : type_of% @gsG_ff := @gsG_ff
theorem zbw : type_of% @goO_some := @goO_some
theorem zbx : type_of% @goV_ok := @goV_ok
theorem zby : type_of% @goN_some := @goN_some
theorem zbz : type_of% @goV_okR := @goV_okR
theorem zca : type_of% @opnd_tmp := @opnd_tmp
theorem zcb : type_of% @opnd_int := @opnd_int
theorem zcc : type_of% @opnd_bool := @opnd_bool
theorem zcd : type_of% @opnd_nils := @opnd_nils
theorem zce : type_of% @opnd_nilp := @opnd_nilp
theorem zcf : type_of% @opnd_str := @opnd_str
theorem zcg : type_of% @A.get_putP := @A.get_putP
theorem zch : type_of% @A.get_baseP := @A.get_baseP
theorem zci : type_of% @L.get_consP := @L.get_consP
theorem zcj : type_of% @L.get_setP := @L.get_setP
theorem zck : type_of% @L.get_nilP := @L.get_nilP
theorem zcl : type_of% @tbit_eqP := @tbit_eqP
theorem zcm : type_of% @kept_true := @kept_true
theorem zcn : type_of% @kept_false := @kept_false
theorem zco : type_of% @A.keep_put := @A.keep_put
theorem zcp : type_of% @A.keep_base := @A.keep_base
theorem zcq : type_of% @A.flush_put := @A.flush_put
theorem zcr : type_of% @A.flush_base := @A.flush_base
theorem zcs : type_of% @putA_some := @putA_some
theorem zct : type_of% @putA_none := @putA_none
theorem zcu : type_of% @argsA_cons := @argsA_cons
theorem zcv : type_of% @argsA_nil := @argsA_nil
theorem zcw : type_of% @toC_vc := @toC_vc
theorem zcx : type_of% @toC_c := @toC_c
theorem zcy : type_of% @toW_vc := @toW_vc
theorem zcz : type_of% @toW_w := @toW_w
theorem zda : type_of% @toI_vc := @toI_vc
theorem zdb : type_of% @toI_c := @toI_c
theorem zdc : type_of% @toB_vc := @toB_vc
theorem zdd : type_of% @toB_c := @toB_c
theorem zde : type_of% @toP_vc := @toP_vc
theorem zdf : type_of% @toP_c := @toP_c
theorem zdg : type_of% @opC_tmp := @opC_tmp
theorem zdh : type_of% @opW_tmp := @opW_tmp
theorem zdi : type_of% @opI_tmp := @opI_tmp
theorem zdj : type_of% @opP_tmp := @opP_tmp
theorem zdk : type_of% @opC_int := @opC_int
theorem zdl : type_of% @opW_int := @opW_int
theorem zdm : type_of% @opI_int := @opI_int
theorem zdn : type_of% @opW_bool := @opW_bool
theorem zdo : type_of% @opC_bool := @opC_bool
theorem zdp : type_of% @opW_nils := @opW_nils
theorem zdq : type_of% @opW_nilp := @opW_nilp
theorem zdr : type_of% @opC_nils := @opC_nils
theorem zds : type_of% @opW_str := @opW_str
theorem zdt : type_of% @rBin_eq := @rBin_eq
theorem zdu : type_of% @rUn_eq := @rUn_eq
theorem zdv : type_of% @rPick_eq := @rPick_eq
theorem zdw : type_of% @rLen_eq := @rLen_eq
theorem zdx : type_of% @rIndexAddr_eq := @rIndexAddr_eq
theorem zdy : type_of% @rFieldAddr_eq := @rFieldAddr_eq
theorem zdz : type_of% @rLoad_eq := @rLoad_eq
theorem zea : type_of% @aAppend_eq := @aAppend_eq
theorem zeb : type_of% @aApp_eq := @aApp_eq
theorem zec : type_of% @aStore_eq := @aStore_eq
theorem zed : type_of% @retU_some := @retU_some
theorem zee : type_of% @retCS_ok := @retCS_ok
theorem zef : type_of% @retW_some := @retW_some
theorem zeg : type_of% @retC_some := @retC_some
theorem zeh : type_of% @b_lss := @b_lss
theorem zei : type_of% @b_leq := @b_leq
theorem zej : type_of% @b_gtr := @b_gtr
theorem zek : type_of% @b_geq := @b_geq
theorem zel : type_of% @b_eql := @b_eql
theorem zem : type_of% @b_neq := @b_neq
theorem zen : type_of% @b_add := @b_add
theorem zeo : type_of% @b_sub := @b_sub
theorem zep : type_of% @b_mul := @b_mul
theorem zeq : type_of% @b_seql := @b_seql
theorem zer : type_of% @b_sneq := @b_sneq
theorem zes : type_of% @u_not := @u_not
theorem zet : type_of% @goR_nm := @goR_nm
theorem zeu : type_of% @goR_ret := @goR_ret
theorem zev : type_of% @resOf_nil := @resOf_nil
theorem zew : type_of% @resOf_cons := @resOf_cons
theorem zex : type_of% @resOne_tmp := @resOne_tmp
theorem zey : type_of% @tupOf_one := @tupOf_one
theorem zez : type_of% @guardOk_eq := @guardOk_eq
theorem zfa : type_of% @boolIs_t := @boolIs_t
theorem zfb : type_of% @boolIs_f := @boolIs_f
theorem zfc : type_of% @boolIs_t' := @boolIs_t'
theorem zfd : type_of% @boolIs_f' := @boolIs_f'
theorem zfe : type_of% @boolIs_skip := @boolIs_skip
theorem zff : type_of% @nBox_eq := @nBox_eq
theorem zfg : type_of% @rExtract_eq := @rExtract_eq
theorem zfh : type_of% @resOne_cell := @resOne_cell
theorem zfi : type_of% @tupOf_two := @tupOf_two
theorem zfj : type_of% @cells_c := @cells_c
theorem zfk : type_of% @cells_agg := @cells_agg
theorem zfl : type_of% @gs_nil := @gs_nil
theorem zfm : type_of% @gs_guard := @gs_guard
theorem zfn : type_of% @gs_move := @gs_move
theorem zfo : type_of% @gs_assign := @gs_assign
theorem zfp : type_of% @gs_load := @gs_load
theorem zfq : type_of% @gs_len := @gs_len
theorem zfr : type_of% @gs_slice := @gs_slice
theorem zfs : type_of% @gs_fieldAddr := @gs_fieldAddr
theorem zft : type_of% @gs_binOp := @gs_binOp
theorem zfu : type_of% @gs_pick := @gs_pick
theorem zfv : type_of% @gs_extract := @gs_extract
theorem zfw : type_of% @gs_indexAddr := @gs_indexAddr
theorem zfx : type_of% @gs_unOp := @gs_unOp
theorem zfy : type_of% @gs_index := @gs_index
theorem zfz : type_of% @gs_field := @gs_field
theorem zga : type_of% @sameV_int := @sameV_int
theorem zgb : type_of% @sameV_bool := @sameV_bool
theorem zgc : type_of% @sameV_str := @sameV_str
theorem zgd : type_of% @sameV_toC := @sameV_toC
theorem zge : type_of% @sameV_cells := @sameV_cells
theorem zgf : type_of% @sameV_int' := @sameV_int'
theorem zgg : type_of% @sameV_str' := @sameV_str'
theorem zgh : type_of% @true_implies := @true_implies
theorem zgi : type_of% @false_implies := @false_implies
theorem zgj : type_of% @and_true := @and_true
theorem zgk : type_of% @true_and := @true_and
theorem zgl : type_of% @Bool.not_false := @Bool.not_false
theorem zgm : type_of% @Bool.not_true := @Bool.not_true
theorem zgn : type_of% @Bool.true_eq_false := @Bool.true_eq_false
theorem zgo : type_of% @Bool.false_eq_true := @Bool.false_eq_true
theorem zgp : type_of% @decide_eq_true_eq := @decide_eq_true_eq
theorem zgq : type_of% @decide_eq_false_iff_not := @decide_eq_false_iff_not
theorem zgr : type_of% @Bool.not_eq_true' := @Bool.not_eq_true'
theorem zgs : type_of% @Bool.not_eq_false' := @Bool.not_eq_false'
theorem zgt : type_of% @decide_true := @decide_true
theorem zgu : type_of% @decide_false := @decide_false
theorem zgv : type_of% @List.getElem?_cons_zero := @List.getElem?_cons_zero
theorem zgw : type_of% @List.getElem?_cons_succ := @List.getElem?_cons_succ
theorem zgx : type_of% @dg_nil := @dg_nil
theorem zgy : type_of% @dg_guard := @dg_guard
theorem zgz : type_of% @dg_move := @dg_move
theorem zha : type_of% @dg_assign := @dg_assign
theorem zhb : type_of% @dg_load := @dg_load
theorem zhc : type_of% @dg_len := @dg_len
theorem zhd : type_of% @dg_slice := @dg_slice
theorem zhe : type_of% @dg_fieldAddr := @dg_fieldAddr
theorem zhf : type_of% @dg_indexAddr := @dg_indexAddr
theorem zhg : type_of% @dg_binOp := @dg_binOp
theorem zhh : type_of% @dg_pick := @dg_pick
theorem zhi : type_of% @dg_unOp := @dg_unOp
theorem zhj : type_of% @dg_extract := @dg_extract
theorem zhk : type_of% @dg_buildSlice := @dg_buildSlice
theorem zhl : type_of% @dg_alloc := @dg_alloc
theorem zhm : type_of% @dg_store := @dg_store
theorem zhn : type_of% @dg_append := @dg_append
theorem zho : type_of% @dgO_some := @dgO_some
theorem zhp : type_of% @dgS_some := @dgS_some
theorem zhq : type_of% @dgN_some := @dgN_some
theorem zhr : type_of% @dgV_ok := @dgV_ok
theorem zhs : type_of% @dgG_tt := @dgG_tt
theorem zht : type_of% @dgG_ff := @dgG_ff
theorem zhu : type_of% @backs_nil := @backs_nil
theorem zhv : type_of% @backs_cons := @backs_cons
theorem zhw : type_of% @fores_nil := @fores_nil
theorem zhx : type_of% @fores_cons := @fores_cons
theorem zhy : type_of% @dt_nil := @dt_nil
theorem zhz : type_of% @dt_assign := @dt_assign
theorem zia : type_of% @lor_eq := @lor_eq
theorem zib : type_of% @land_eq := @land_eq
theorem zic : type_of% @shl_eq := @shl_eq
theorem zid : type_of% @nbeq_eq := @nbeq_eq
theorem zie : type_of% @again_eq := @again_eq
theorem zif : type_of% @V_same_toC := @V_same_toC
theorem zig : type_of% @V_same_dat := @V_same_dat
theorem zih : type_of% @or_true := @or_true
theorem zii : type_of% @true_or := @true_or
theorem zij : type_of% @or_false := @or_false
theorem zik : type_of% @false_or := @false_or
theorem zil : type_of% @List.take_succ_cons := @List.take_succ_cons
theorem zim : type_of% @List.take_zero := @List.take_zero
theorem zin : type_of% @List.drop_succ_cons := @List.drop_succ_cons
theorem zio : type_of% @List.drop_zero := @List.drop_zero
theorem zip : type_of% @Nat.add_zero := @Nat.add_zero
end Ev
