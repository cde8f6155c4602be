import Derived.Test.YtgpdamhijknegaaGreatDoorRlI
import Derived.Test.YtgpdamhijknegaaGreatDoorRkA
import Derived.Test.YtgpdamhijknegaaGreatDoorEwG
namespace Rl
open Go Go.Proofs Ev
set_option linter.unusedVariables false
set_option linter.unusedSimpArgs false
set_option maxRecDepth 100000
theorem frzV_agg (look : Look) {l : List D} (h : l.all D.plain = true) : frzV look (.w (.agg (cellsD l))) = some (.w (.agg l), []) := by
  simp only [frzV, frzW, mapO_plain look 64 l h]
/-- what is known of a function -/
def Ok (q : Nat × Ext) : Prop := ExtOne Tryz.prog Tryz.prog.globals.size q.1 q.2
def Oks (l : List (Nat × Ext)) : Prop := ∀ q ∈ l, Ok q
theorem ok0 : Oks [] := fun q h => by cases h
theorem ok1 {q : Nat × Ext} {l : List (Nat × Ext)} (h : Ok q) (hl : Oks l) : Oks (q :: l) := by
  intro x hx
  rcases List.mem_cons.1 hx with rfl | hx
  · exact h
  · exact hl x hx
theorem any_ok : Tryz.prog.follows .mixedOrders = true := by kernel_rfl
theorem types_ok : typesOk Tryz.prog = true := by kernel_rfl
theorem fns_ok : kps.all (fun p => fnOk Tryz.prog p.1) = true := by kernel_rfl
noncomputable def e9 : Nat × Ext := (9, .const (.bool true) Rk.gs)
theorem c9 : Ok e9 := Rk.known_ok
noncomputable def e17 : Nat × Ext := (17, .fn (ofG (REq 1 Str1)) [])
theorem c17 : Ok e17 := eq_contract (exts := []) 17 1 Str1 ok0 rfl (fun a b s K ha hb hK => eq17 _ rfl a b s ha hb K hK) any_ok types_ok fns_ok
noncomputable def e11 : Nat × Ext := (11, .fn (ofG (REq 2 Str2)) [])
theorem c11 : Ok e11 := eq_contract (exts := []) 11 2 Str2 ok0 rfl (fun a b s K ha hb hK => eq11 _ rfl a b s ha hb K hK) any_ok types_ok fns_ok
noncomputable def e10 : Nat × Ext := (10, .fn (ofG (REq 2 Str2)) [])
theorem c10 : Ok e10 := eq_contract (exts := []) 10 2 Str2 ok0 rfl (fun a b s K ha hb hK => eq10 _ rfl a b s ha hb K hK) any_ok types_ok fns_ok
noncomputable def e12 : Nat × Ext := (12, .fn (ofG RSameC) [])
theorem c12 : Ok e12 := fn_of_go (exts := [e17, e11]) any_ok types_ok fns_ok (ok1 c17 (ok1 c11 ok0)) rfl _ (by
    rintro ps pv ⟨x, y, t, rfl, ha, hb, ht, rfl⟩
    refine call12 _ rfl rfl rfl x y _ ha hb _ fun t' s' ht' => ⟨[], ?_⟩
    have : t' = t := by rw [Bool.eq_iff_iff, ht, ht']
    rw [this]; rfl)
def pOO : List PW → Prop
  | [.agg x, .agg y] => GoodO x ∧ GoodO y
  | _ => False
def qS : List PW → Prop
  | [.agg x, .agg y] => SameF x y ∧ eqCalls (callsO x) (callsO y)
  | _ => False
noncomputable def e6 : Nat × Ext := (6, .fn (ofG (RB pOO qS)) [])
theorem c6 : Ok e6 := fn_of_go (exts := [e10, e11, e12]) any_ok types_ok fns_ok (ok1 c10 (ok1 c11 (ok1 c12 ok0))) rfl _ (by
    rintro ps pv ⟨hP, t, ht, rfl⟩
    match ps, hP, ht with
    | [.agg x, .agg y], hP, ht =>
      refine refSame6 _ rfl rfl rfl rfl x y _ hP.1 hP.2 _ fun t' s' ht' => ⟨[], ?_⟩
      have : t' = t := by rw [Bool.eq_iff_iff, ht, ht']; rfl
      rw [this]; rfl)
noncomputable def e4 : Nat × Ext := (4, .fn (ofG RLook) [])
theorem c4 : Ok e4 := fn_of_go (exts := []) any_ok types_ok fns_ok ok0 rfl _ (by
    rintro ps pv ⟨d, n, rfl, hd, rfl⟩
    exact look4 _ rfl d n _ hd _ fun s' => ⟨[], frzV_agg _ (goodA_plain (lookD_good hd.all n))⟩)
noncomputable def e5 : Nat × Ext := (5, .fn (ofG RLook) [])
theorem c5 : Ok e5 := fn_of_go (exts := []) any_ok types_ok fns_ok ok0 rfl _ (by
    rintro ps pv ⟨d, n, rfl, hd, rfl⟩
    exact look5 _ rfl d n _ hd _ fun s' => ⟨[], frzV_agg _ (goodA_plain (lookD_good hd.all n))⟩)
theorem frz_c {s : St} {c : C} {d : D} {bs : List Nat} (h : frzC s.h.get 64 c = some (d, bs)) : frzV s.h.get (vc c) = some (.w (.c d), bs) := by
  simp only [vc, frzV, frzW, h]
noncomputable def e13 : Nat × Ext := (13, .fn (ofG (RClone 2 Str2 32)) [])
theorem c13 : Ok e13 := fn_of_go (exts := []) any_ok types_ok fns_ok ok0 rfl _ (by
    rintro ps pv ⟨d, rfl, hd, hb, rfl⟩
    exact clone13 _ rfl d _ hd hb _ fun c s' bs h => ⟨bs, frz_c h⟩)
noncomputable def e14 : Nat × Ext := (14, .fn (ofG (RClone 2 Str2 32)) [])
theorem c14 : Ok e14 := fn_of_go (exts := []) any_ok types_ok fns_ok ok0 rfl _ (by
    rintro ps pv ⟨d, rfl, hd, hb, rfl⟩
    exact clone14 _ rfl d _ hd hb _ fun c s' bs h => ⟨bs, frz_c h⟩)
noncomputable def e15 : Nat × Ext := (15, .fn (ofG (RClone 4 GoodC 72)) [])
theorem c15 : Ok e15 := fn_of_go (exts := []) any_ok types_ok fns_ok ok0 rfl _ (by
    rintro ps pv ⟨d, rfl, hd, hb, rfl⟩
    exact clone15 _ rfl d _ hd hb _ fun c s' bs h => ⟨bs, frz_c h⟩)
noncomputable def e7 : Nat × Ext := (7, .fn (ofG REnd) [])
theorem c7 : Ok e7 := fn_of_go (exts := [e13, e14, e15]) any_ok types_ok fns_ok (ok1 c13 (ok1 c14 (ok1 c15 ok0))) rfl _ (by
    rintro ps pv ⟨x, ca, rfl, hx, hca, hn, rfl⟩
    exact end7 _ rfl rfl rfl rfl x ca _ hx hca hn _ fun s' => ⟨[], frzV_agg _ (goodO_plain (endO_good hx hca))⟩)
noncomputable def e8 : Nat × Ext := (8, .fn (ofG REnd) [])
theorem c8 : Ok e8 := fn_of_go (exts := []) any_ok types_ok fns_ok ok0 rfl _ (by
    rintro ps pv ⟨x, ca, rfl, hx, hca, hn, rfl⟩
    exact refEnd8 _ rfl x ca _ hx hca _ fun s' => ⟨[], frzV_agg _ (goodO_plain (endO_good hx hca))⟩)
noncomputable def exts3 : List (Nat × Ext) := [e4, e5, e6, e7, e8, e9]
theorem oks3 : Oks exts3 := ok1 c4 (ok1 c5 (ok1 c6 (ok1 c7 (ok1 c8 (ok1 c9 ok0)))))
end Rl
