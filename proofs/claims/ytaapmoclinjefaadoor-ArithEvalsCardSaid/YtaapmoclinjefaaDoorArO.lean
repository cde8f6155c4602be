import Derived.Test.YtaapmoclinjefaaDoorArN
import Derived.Test.YtaapmoclinjefaaDoorEwL
namespace Ar
open Go Go.Proofs Ev Go.Lib Nu
set_option linter.unusedVariables false
set_option linter.unusedSimpArgs false
set_option linter.unnecessarySimpa false
set_option maxRecDepth 100000
theorem me_goM {exts : List (Nat × Ext)} (hx : Oks exts) {f : Nat} (R : List D → List PW → PV × List D → Prop)
    (hf : ∀ ds ps v, R ds ps v → ∀ x, (pairT exts .nil).get f = some x → extF x (.c (.ptr Tryd.prog.globals.size 0) :: ps.map PW.toW) (stM Tryd.prog.globals.size ds) = .no)
    (h : ∀ ds ps pv ds', R ds ps (pv, ds') → goC (envOf Tryd.prog exts kps) f (.c (.ptr Tryd.prog.globals.size 0) :: ps.map PW.toW) (stM Tryd.prog.globals.size ds) fun v s' => ∃ bs l' bs2, frzV s'.h.get v = some (pv, bs) ∧ Tryd.prog.globals.size ∉ bs ∧
        LRow s' Tryd.prog.globals.size l' ∧ mapO (frzC s'.h.get 2000) l' = some (ds', bs2) ∧ Tryd.prog.globals.size ∉ bs2) : MeOk Tryd.prog f (ofM R) := by
  refine me_of_run Ak.any_ok types_ok fns_ok hx _ fun ds ps pv ds' hF => ⟨hf ds ps _ (ofM_some hF), ?_⟩
  obtain ⟨v, s', ⟨N, hN⟩, bs, l', bs2, hz⟩ := h ds ps pv ds' (ofM_some hF)
  exact ⟨N, N, v, s', bs, l', bs2, hN N (N + 1) (Nat.le_refl _) (Nat.le_succ _), hz⟩
theorem me_union {f : Nat} {R R1 R2 : List D → List PW → PV × List D → Prop} (h1 : MeOk Tryd.prog f (ofM R1)) (h2 : MeOk Tryd.prog f (ofM R2)) (hR : ∀ ds ps v, R ds ps v → (R1 ds ps v ∧ ∀ v', R1 ds ps v' → v' = v) ∨ (R2 ds ps v ∧ ∀ v', R2 ds ps v' → v' = v)) : MeOk Tryd.prog f (ofM R) := by
  intro ρ w vals ds ps pv ds' h hg hF hlen hps
  rcases hR ds ps _ (ofM_some hF) with ⟨h, hu⟩ | ⟨h, hu⟩
  · exact h1 ρ w vals ds ps pv ds' (by assumption) hg (ofM_eq h hu) hlen hps
  · exact h2 ρ w vals ds ps pv ds' (by assumption) hg (ofM_eq h hu) hlen hps
def RKx (k : Kd) (n : Nat) (ds : List D) (ps : List PW) (v : PV × List D) : Prop := ∃ l b t l' b', ds = prD l b ∧ ps = [] ∧ l.length = n ∧ Ps k l b t l' b' ∧ v = (.w (.c (dT t)), prD l' b')
theorem rkx_u {k : Kd} {n : Nat} {ds : List D} {ps : List PW} {v v' : PV × List D} (h : RKx k n ds ps v) (h' : RKx k n ds ps v') : v' = v := by
  obtain ⟨l, b, t, l', b', rfl, rfl, hl, hp, rfl⟩ := h
  obtain ⟨m, c, u, m', c', h1, _, _, hp', rfl⟩ := h'
  obtain ⟨rfl, rfl⟩ := pr_inj h1
  obtain ⟨rfl, rfl, rfl⟩ := hp.det hp'
  rfl
theorem ng_nx (ds : List D) : Tryd.prog.globals.size < (stM Tryd.prog.globals.size ds).nx := Nat.lt_succ_self _
theorem kRes {t : Tr} {l' : List UInt8} {b' : Bool} {c : C} {m : Nat} {s' : St} (hm : m ≤ 2000) (hT : HasT s' Tryd.prog.globals.size m c t) (hr : LRow s' Tryd.prog.globals.size (cellsD (prD l' b'))) : MeK (.w (.c (dT t))) l' b' (vc c) s' := by
  obtain ⟨bs, h1, h2⟩ := hT.val hm
  exact meK h1 h2 hr
theorem m45 (n : Nat) (hn : n ≤ 900) (hU : Ok (45, .me (ofM (RK .U n)) [])) (hX : Ok (10, .me (ofM (RK .X n)) [])) : MeOk Tryd.prog 45 (ofM (RKx .U n)) := by
  refine me_goM (exts := [(45, .me (ofM (RK .U n)) []), (10, .me (ofM (RK .X n)) []), e18, e58, e60, e63]) (ok1 hU (ok1 hX (ok1 c18 (ok1 c58 (ok1 c60 (ok1 c63 ok0)))))) _ ?_ ?_
  · rintro ds ps v ⟨l, b, t, l', b', rfl, rfl, hl, hp, rfl⟩ x hx
    cases hx
    refine ext_me_no (ps := []) (stM_LRow _ _) rfl rfl ?_
    rintro v ⟨m, c, u, m', c', h1, _, h2, _⟩
    obtain ⟨rfl, rfl⟩ := pr_inj h1
    omega
  · rintro ds ps pv ds' ⟨l, b, t, l', b', rfl, rfl, hl, hp, h⟩
    cases h
    refine unary45 _ rfl rfl rfl rfl rfl rfl (Nat.le_of_eq hl) (by omega) hp (ng_nx _) (stM_LRow _ _) ?_ _ fun c s' hT hr => kRes (by omega) hT hr
    refine ext_me_no (ps := []) (stM_LRow _ _) rfl rfl ?_
    rintro v ⟨m, c, u, m', c', h1, _, h2, _⟩
    obtain ⟨rfl, rfl⟩ := pr_inj h1
    omega
theorem m30 (n : Nat) (hn : n ≤ 901) (hU : Ok (45, .me (ofM (RK .U n)) [])) : MeOk Tryd.prog 30 (ofM (RK .P n)) := by
  refine me_goM (exts := [(45, .me (ofM (RK .U n)) []), e18]) (ok1 hU (ok1 c18 ok0)) _ (fun _ _ _ _ x hx => by cases hx) ?_
  rintro ds ps pv ds' ⟨l, b, t, l', b', rfl, rfl, hl, hp, h⟩
  cases h
  exact prod30 _ rfl rfl rfl hl (by omega) hp (ng_nx _) (stM_LRow _ _) _ fun c m s' hm hT hr => kRes (by omega) hT hr
theorem m17 (n : Nat) (hn : n ≤ 901) (hU : Ok (30, .me (ofM (RK .P n)) [])) : MeOk Tryd.prog 17 (ofM (RK .S n)) := by
  refine me_goM (exts := [(30, .me (ofM (RK .P n)) []), e18]) (ok1 hU (ok1 c18 ok0)) _ (fun _ _ _ _ x hx => by cases hx) ?_
  rintro ds ps pv ds' ⟨l, b, t, l', b', rfl, rfl, hl, hp, h⟩
  cases h
  exact sum17 _ rfl rfl rfl hl (by omega) hp (ng_nx _) (stM_LRow _ _) _ fun c m s' hm hT hr => kRes (by omega) hT hr
theorem m10 (n : Nat) (hU : Ok (17, .me (ofM (RK .S n)) [])) : MeOk Tryd.prog 10 (ofM (RK .X n)) := by
  refine me_goM (exts := [(17, .me (ofM (RK .S n)) []), e18]) (ok1 hU (ok1 c18 ok0)) _ (fun _ _ _ _ x hx => by cases hx) ?_
  rintro ds ps pv ds' ⟨l, b, t, l', b', rfl, rfl, hl, hp, h⟩
  cases h
  exact expr10 _ rfl rfl rfl hl hp (ng_nx _) (stM_LRow _ _) _ fun c s' hT hr => kRes (by omega) hT hr
theorem m_zero (f : Nat) (k : Kd) : MeOk Tryd.prog f (ofM (RK k 0)) := by
  intro ρ w vals ds ps pv ds' h hg hF
  obtain ⟨l, _, _, _, _, _, _, hl, _⟩ := ofM_some hF
  omega
theorem good : ∀ n, n ≤ 901 → MeOk Tryd.prog 45 (ofM (RK .U n)) ∧ MeOk Tryd.prog 10 (ofM (RK .X n))
  | 0, _ => ⟨m_zero _ _, m_zero _ _⟩
  | n + 1, h => by
    obtain ⟨hU, hX⟩ := good n (by omega)
    have hx := m45 n (by omega) (ext_me hU) (ext_me hX)
    have hU2 : MeOk Tryd.prog 45 (ofM (RK .U (n + 1))) := me_union hU hx (by
      rintro ds ps v ⟨l, b, t, l', b', rfl, rfl, hl, hp, rfl⟩
      by_cases hlt : l.length < n
      · have hR : RK .U n (prD l b) [] (.w (.c (dT t)), prD l' b') := ⟨l, b, t, l', b', rfl, rfl, hlt, hp, rfl⟩
        exact .inl ⟨hR, fun v' h => rk_u hR h⟩
      · have hR : RKx .U n (prD l b) [] (.w (.c (dT t)), prD l' b') := ⟨l, b, t, l', b', rfl, rfl, by omega, hp, rfl⟩
        exact .inr ⟨hR, fun v' h => rkx_u hR h⟩)
    exact ⟨hU2, m10 (n + 1) (ext_me (m17 (n + 1) h (ext_me (m30 (n + 1) h (ext_me hU2)))))⟩
noncomputable def e10 : Nat × Ext := (10, .me (ofM (RK .X 901)) [])
theorem c10 : Ok e10 := ext_me (good 901 (Nat.le_refl _)).2
end Ar
