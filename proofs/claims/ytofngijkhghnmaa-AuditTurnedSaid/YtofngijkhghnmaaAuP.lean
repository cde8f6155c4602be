import Derived.Test.YtofngijkhghnmaaAuO
namespace Au
open Go Go.Proofs Ev
set_option linter.unusedVariables false
set_option linter.unusedSimpArgs false
set_option maxRecDepth 1000000
theorem any_ok : Try.prog.follows .mixedOrders = true := by kernel_rfl
theorem types_ok : typesOk Try.prog = true := by kernel_rfl
theorem fns_ok : kps.all (fun p => fnOk Try.prog p.1) = true := by kernel_rfl
theorem known_run : valOf (runF (envOf Try.prog [] kps) 20 101 14 [] (st0 [] Try.prog.globals.size)) = some (.bool true) := by kernel_rfl
/-- what is known of a function -/
def Ok (q : Nat × Ext) : Prop := ExtOne Try.prog Try.prog.globals.size q.1 q.2
def Oks (l : List (Nat × Ext)) : Prop := ∀ q ∈ l, Ok q
theorem ok0 : Oks [] := fun q h => by cases h
theorem ok1 {q : Nat × Ext} {l : List (Nat × Ext)} (h : Ok q) (hl : Oks l) : Oks (q :: l) := by
  intro x hx
  rcases List.mem_cons.1 hx with rfl | hx
  · exact h
  · exact hl x hx
noncomputable def e14 : Nat × Ext := (14, .const (.bool true) [])
theorem c14 : Ok e14 := ext_const any_ok types_ok fns_ok ok0 [] rfl rfl rfl known_run
noncomputable def e27 : Nat × Ext := (27, .fn (ofG (REq 2 Str2)) [])
theorem c27 : Ok e27 := eq_contract (exts := []) 27 2 Str2 ok0 rfl (fun a b s K ha hb hK => eq27 _ rfl a b s ha hb K hK) any_ok types_ok fns_ok
noncomputable def e28 : Nat × Ext := (28, .fn (ofG (REq 2 Str2)) [])
theorem c28 : Ok e28 := eq_contract (exts := []) 28 2 Str2 ok0 rfl (fun a b s K ha hb hK => eq28 _ rfl a b s ha hb K hK) any_ok types_ok fns_ok
noncomputable def e29 : Nat × Ext := (29, .fn (ofG (REq 1 Str1)) [])
theorem c29 : Ok e29 := eq_contract (exts := []) 29 1 Str1 ok0 rfl (fun a b s K ha hb hK => eq29 _ rfl a b s ha hb K hK) any_ok types_ok fns_ok
noncomputable def e30 : Nat × Ext := (30, .fn (ofG (REq 2 Str2)) [])
theorem c30 : Ok e30 := eq_contract (exts := []) 30 2 Str2 ok0 rfl (fun a b s K ha hb hK => eq30 _ rfl a b s ha hb K hK) any_ok types_ok fns_ok
noncomputable def e31 : Nat × Ext := (31, .fn (ofG (REq 1 Str1)) [])
theorem c31 : Ok e31 := eq_contract (exts := []) 31 1 Str1 ok0 rfl (fun a b s K ha hb hK => eq31 _ rfl a b s ha hb K hK) any_ok types_ok fns_ok
noncomputable def e34 : Nat × Ext := (34, .fn (ofG (REq 2 Str2)) [])
theorem c34 : Ok e34 := eq_contract (exts := []) 34 2 Str2 ok0 rfl (fun a b s K ha hb hK => eq34 _ rfl a b s ha hb K hK) any_ok types_ok fns_ok
theorem sameC_contract {exts : List (Nat × Ext)} (f : Nat) (hx : Oks exts) (hf : (pairT exts .nil).get f = none)
    (h : ∀ x y s K, GoodC x → GoodC y → (∀ (t : Bool) s', (t = true ↔ SameC x y) → K (vc (.bool t)) s') → goC (En (pairT exts .nil)) f [.agg (cellsD x), .agg (cellsD y)] s K) : Ok (f, .fn (ofG RSameC) []) :=
  fn_of_go any_ok types_ok fns_ok hx hf _ (by
    rintro ps pv ⟨x, y, t, rfl, ha, hb, ht, rfl⟩
    refine h x y _ _ ha hb fun t' s' ht' => ⟨[], ?_⟩
    have : t' = t := by rw [Bool.eq_iff_iff, ht, ht']
    rw [this]; rfl)
noncomputable def e18 : Nat × Ext := (18, .fn (ofG RSameC) [])
theorem c18 : Ok e18 := sameC_contract (exts := [e29, e30]) 18 (ok1 c29 (ok1 c30 ok0)) rfl fun x y s K h1 h2 hK => call18 _ rfl rfl rfl x y s h1 h2 K hK
noncomputable def e19 : Nat × Ext := (19, .fn (ofG RSameC) [])
theorem c19 : Ok e19 := sameC_contract (exts := [e31, e28]) 19 (ok1 c31 (ok1 c28 ok0)) rfl fun x y s K h1 h2 hK => call19 _ rfl rfl rfl x y s h1 h2 K hK
noncomputable def e22 : Nat × Ext := (22, .fn (ofG RAgain) [])
theorem c22 : Ok e22 := fn_of_go (exts := []) any_ok types_ok fns_ok ok0 rfl _ (by
    rintro ps pv ⟨d, i, t, rfl, hd, hi, ht, rfl⟩
    refine again22 _ rfl d _ hd i hi _ fun t' s' ht' => ⟨[], ?_⟩
    have : t' = t := by rw [Bool.eq_iff_iff, ht, ht']
    rw [this]; rfl)
noncomputable def e7 : Nat × Ext := (7, .fn (ofG (RB pL qL)) [])
theorem c7 : Ok e7 := b_contract (exts := []) 7 pL qL any_ok types_ok fns_ok ok0 rfl fun ps s K hP hK => match ps, hP, hK with
  | [.c d], h1, hK => large7 _ rfl d s h1 K hK
noncomputable def e15 : Nat × Ext := (15, .fn (ofG (RList fun l => l)) [])
theorem c15 : Ok e15 := list_contract (exts := []) 15 (fun l => l) (fun l h => h) any_ok types_ok fns_ok ok0 rfl fun d s K hd hn hK => ref_all _ rfl d s hd.el hd.all hd.len hn K hK
noncomputable def e20 : Nat × Ext := (20, .fn (ofG (RList fun l => l)) [])
theorem c20 : Ok e20 := list_contract (exts := []) 20 (fun l => l) (fun l h => h) any_ok types_ok fns_ok ok0 rfl fun d s K hd hn hK => all20 _ rfl d s hd hn K hK
noncomputable def e21 : Nat × Ext := (21, .fn (ofG (RList lastD)) [])
theorem c21 : Ok e21 := list_contract (exts := []) 21 lastD (fun l h => lastD_good h) any_ok types_ok fns_ok ok0 rfl fun d s K hd hn hK => playCalls21 _ rfl rfl rfl rfl d s hd hn K hK
noncomputable def e26 : Nat × Ext := (26, .fn (ofG (RList lastD)) [])
theorem c26 : Ok e26 := list_contract (exts := [e15, e22]) 26 lastD (fun l h => lastD_good h) any_ok types_ok fns_ok (ok1 c15 (ok1 c22 ok0)) rfl fun d s K hd hn hK => refCalls26 _ rfl rfl rfl d s hd hn K hK
theorem cut_contract {exts : List (Nat × Ext)} (f : Nat) (hx : Oks exts) (hf : (pairT exts .nil).get f = none)
    (h : ∀ d s K, Good 6 GoodO d → (allD (els d)).length ≤ 1000 → (∀ s', K (vc (.int .i64 (Int.ofNat (cutN (allD (els d)))))) s') → goC (En (pairT exts .nil)) f [.c d.toC] s K) : Ok (f, .fn (ofG RCut) []) :=
  fn_of_go any_ok types_ok fns_ok hx hf _ (by
    rintro ps pv ⟨d, rfl, hd, hn, rfl⟩
    exact h d _ _ hd hn fun s' => ⟨[], rfl⟩)
noncomputable def e9 : Nat × Ext := (9, .fn (ofG RCut) [])
theorem c9 : Ok e9 := cut_contract (exts := [e15, e22]) 9 (ok1 c15 (ok1 c22 ok0)) rfl fun d s K hd hn hK => cut9 _ rfl rfl rfl d s hd hn K hK
noncomputable def e8 : Nat × Ext := (8, .fn (ofG RCut) [])
theorem c8 : Ok e8 := cut_contract (exts := [e20, e21]) 8 (ok1 c20 (ok1 c21 ok0)) rfl fun d s K hd hn hK => cut8 _ rfl rfl rfl d s hd hn K hK
noncomputable def e11 : Nat × Ext := (11, .fn (ofG (RB pOne qSteady)) [])
theorem c11 : Ok e11 := b_contract (exts := [e15, e19]) 11 pOne qSteady any_ok types_ok fns_ok (ok1 c15 (ok1 c19 ok0)) rfl fun ps s K hP hK => match ps, hP, hK with
  | [.c d], h1, hK => steady11 _ rfl rfl rfl d s h1.1 h1.2 K hK
noncomputable def e10 : Nat × Ext := (10, .fn (ofG (RB pOne qSteady)) [])
theorem c10 : Ok e10 := b_contract (exts := [e20, e18]) 10 pOne qSteady any_ok types_ok fns_ok (ok1 c20 (ok1 c18 ok0)) rfl fun ps s K hP hK => match ps, hP, hK with
  | [.c d], h1, hK => steady10 _ rfl rfl rfl d s h1.1 h1.2 K hK
noncomputable def e24 : Nat × Ext := (24, .fn (ofG (RB pOO qF)) [])
theorem c24 : Ok e24 := b_contract (exts := [e34, e30]) 24 pOO qF any_ok types_ok fns_ok (ok1 c34 (ok1 c30 ok0)) rfl fun ps s K hP hK => match ps, hP, hK with
  | [.agg x, .agg y], h1, hK => same24 _ rfl rfl rfl x y s h1.1 h1.2 K hK
noncomputable def e25 : Nat × Ext := (25, .fn (ofG (RB pCC qCC)) [])
theorem c25 : Ok e25 := b_contract (exts := [e18]) 25 pCC qCC any_ok types_ok fns_ok (ok1 c18 ok0) rfl fun ps s K hP hK => match ps, hP, hK with
  | [.c a, .c b, .c (.fn n)], h1, hK => by
    obtain ⟨h1, h2, rfl⟩ := h1
    exact equalFunc25 _ rfl rfl a b s h1 h2 K hK
noncomputable def e17 : Nat × Ext := (17, .fn (ofG (RB pOO q17)) [])
theorem c17 : Ok e17 := b_contract (exts := [e27, e28, e19]) 17 pOO q17 any_ok types_ok fns_ok (ok1 c27 (ok1 c28 (ok1 c19 ok0))) rfl fun ps s K hP hK => match ps, hP, hK with
  | [.agg x, .agg y], h1, hK => refSame17 _ rfl rfl rfl rfl x y s h1.1 h1.2 K hK
noncomputable def e23 : Nat × Ext := (23, .fn (ofG RLast) [])
theorem c23 : Ok e23 := last_contract (exts := []) any_ok types_ok fns_ok ok0 rfl
noncomputable def e12 : Nat × Ext := (12, .fn (ofG (RB pH qH)) [])
theorem c12 : Ok e12 := b_contract (exts := [e23, e24, e21, e25, e10, e8]) 12 pH qH any_ok types_ok fns_ok (ok1 c23 (ok1 c24 (ok1 c21 (ok1 c25 (ok1 c10 (ok1 c8 ok0)))))) rfl fun ps s K hP hK => match ps, hP, hK with
  | [.agg w, .c d], h1, hK => holds12 _ rfl rfl rfl rfl rfl rfl rfl w d s h1.1 h1.2.1 h1.2.2 K hK
noncomputable def e13 : Nat × Ext := (13, .fn (ofG (RB pH qH)) [])
theorem c13 : Ok e13 := b_contract (exts := [e26, e17, e11, e9]) 13 pH qH any_ok types_ok fns_ok (ok1 c26 (ok1 c17 (ok1 c11 (ok1 c9 ok0)))) rfl fun ps s K hP hK => match ps, hP, hK with
  | [.agg w, .c d], h1, hK => holds13 _ rfl rfl rfl rfl rfl w d s h1.1 h1.2.1 h1.2.2 K hK
end Au
