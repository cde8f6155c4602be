import Derived.Test.YtpkjpkfamdmgiaaGreatDoorWqH
import Derived.Test.YtpkjpkfamdmgiaaGreatDoorEwL
namespace Ws
open Go Go.Proofs Ev Wq
set_option linter.unusedVariables false
set_option linter.unusedSimpArgs false
set_option linter.unnecessarySimpa false
set_option maxRecDepth 100000
def tsL (l : List Str) : List (List D) := l.map fun z => [D.str z]
theorem tsL_one (l : List Str) : ∀ x ∈ tsL l, x.length = 1 := by
  intro x hx
  obtain ⟨r, _, rfl⟩ := List.mem_map.1 hx; rfl
theorem tsL_plain (l : List Str) : (tsL l).flatten.all D.plain = true := by
  rw [List.all_eq_true]
  intro d hd
  obtain ⟨x, hx, hdx⟩ := List.mem_flatten.1 hd
  obtain ⟨r, _, rfl⟩ := List.mem_map.1 hx
  have : d = .str r := by simpa using hdx
  rw [this]; rfl
theorem match18 (X : T Ext) (hX : (En X).ext.get 18 = none) (h31 : (En X).ext.get 31 = some (.fn (ofG RHs) [])) (h21 : (En X).ext.get 21 = some (.fn (ofG RText) [])) (cs : List (Nat × Bool)) (hn : cs.length ≤ 100000) (s : St) (K : V → St → Prop)
    (hK : ∀ c s', (∃ bs, frzC s'.h.get 2000 c = some (.sl 1 (tsL [textS cs]), bs)) → K (vc c) s') : goC (En X) 18 [.c (chD cs).toC, .c .nils] s K := by
  refine goC_body hX (kp18 X) (fn18 X) rfl (by kernel_rfl) ?_
  have hres : Tryz.f18.results.toList = [.tmp 4] := rfl
  have hcall := callR_hs h31 cs hn s
  have hie : IsEls 2 (chD cs) := isEls_slD (elC_two cs)
  have htx := fun s => callR_text h21 (chD cs) cs hie (by unfold chD; rw [els_slD]) hn (chD_plain cs) s
  generalize (chD cs).toC = dc at *
  have hl0 : ∀ look, len (En X) 25 look .nils = some 0 := fun look => len_nils (us25 X)
  have fin : ∀ s1 : St, K (vc (.sl s1.nx 0 1 (some 1) 1)) (s1.new (.row (mkRow [.str (textS cs)]))) := fun s1 => by
    refine hK _ _ ⟨[s1.nx], ?_⟩
    exact frz_sl (ls := tsL [textS cs]) (tsL_one _) (RowAt.of (LRow.new s1 [.str (textS cs)])) (tsL_plain _) (Nat.le_refl _) rfl 1999
  have e0 : (Int.ofNat 0 < Int.ofNat 0) = False := eq_false (by decide)
  have e1 : (Int.ofNat 0 = 0) = True := eq_true rfl
  simp only [zEV, Nat.reduceShiftRight, Nat.reduceMod, Nat.reduceEqDiff, Nat.reduceAdd, ↓reduceIte, reduceCtorEq]
  refine go_call _ _ _ _ _ _ (ws := [.c dc]) rfl (by simp only [zEA, Nat.reduceShiftRight, Nat.reduceMod, Nat.reduceEqDiff, Nat.reduceAdd, ↓reduceIte, reduceCtorEq, argsOf_cons, argsOf_nil]) ?_
  refine goC_of hcall ?_
  cases cs.any spB with
  | true =>
    simp only [zEV, Nat.reduceShiftRight, Nat.reduceMod, Nat.reduceEqDiff, Nat.reduceAdd, ↓reduceIte, reduceCtorEq, hl0]
    refine go_loop (goL_inv (fun n' a' s' => Has a' 0 (vc dc) ∧ Has a' 5 (vc .nils) ∧ Has a' 11 (vc (.int .i64 (Int.ofNat 0))) ∧ Has a' 12 (vc (.int .i64 0))) (n := 0) ⟨⟨rfl, rfl⟩, ⟨rfl, rfl⟩, ⟨rfl, rfl⟩, ⟨rfl, rfl⟩⟩ ?_)
    rintro n' a' s' ⟨⟨g0, k0⟩, ⟨g5, k5⟩, ⟨g11, k11⟩, ⟨g12, k12⟩⟩
    have e0' : ((0 : Int) < Int.ofNat 0) = False := e0
    simp only [zEV, Nat.reduceShiftRight, Nat.reduceMod, Nat.reduceEqDiff, Nat.reduceAdd, ↓reduceIte, reduceCtorEq, g0, k0, g5, k5, g11, k11, g12, k12, e0', hl0, e1]
    refine go_call _ _ _ _ _ _ (ws := [.c dc]) rfl (by simp only [zEV, Nat.reduceShiftRight, Nat.reduceMod, Nat.reduceEqDiff, Nat.reduceAdd, ↓reduceIte, reduceCtorEq, g0, k0, argsOf_cons, argsOf_nil]) ?_
    refine goC_of (htx _) ?_
    simp only [zEV, Nat.reduceShiftRight, Nat.reduceMod, Nat.reduceEqDiff, Nat.reduceAdd, ↓reduceIte, reduceCtorEq, g0, k0, g5, k5, nBuildSlice_eq, partsOf_cons, partsOf_nil, bS25_1, hres]
    exact fin _
  | false =>
    simp only [zEV, Nat.reduceShiftRight, Nat.reduceMod, Nat.reduceEqDiff, Nat.reduceAdd, ↓reduceIte, reduceCtorEq, hl0, e1]
    refine go_call _ _ _ _ _ _ (ws := [.c dc]) rfl (by simp only [zEA, Nat.reduceShiftRight, Nat.reduceMod, Nat.reduceEqDiff, Nat.reduceAdd, ↓reduceIte, reduceCtorEq, argsOf_cons, argsOf_nil]) ?_
    refine goC_of (htx _) ?_
    simp only [zEV, Nat.reduceShiftRight, Nat.reduceMod, Nat.reduceEqDiff, Nat.reduceAdd, ↓reduceIte, reduceCtorEq, nBuildSlice_eq, partsOf_cons, partsOf_nil, bS25_1, hres]
    exact fin _
def RMt (ps : List PW) (v : PV) : Prop := ∃ cs : List (Nat × Bool), ps = [.c (chD cs), .c .nils] ∧ cs.length ≤ 100000 ∧ v = .w (.c (.sl 1 (tsL [textS cs])))
noncomputable def e18 : Nat × Ext := (18, .fn (ofG RMt) [])
theorem c18 : OkE Tryz.prog e18 := fn_goE (exts := [e31, e21]) Wk.any_ok Wk.types_ok fns_ok (oks1 c31 (oks1 c21 oks0)) rfl [] rfl _ (by
  rintro ps pv ⟨cs, rfl, hn, rfl⟩
  refine match18 _ rfl rfl rfl cs hn _ _ fun c s' h => ?_
  obtain ⟨bs, hf⟩ := h
  exact ⟨bs, frz_c hf⟩)
theorem callR_mt {X : T Ext} (h18 : (En X).ext.get 18 = some (.fn (ofG RMt) [])) (cs : List (Nat × Bool)) (hn : cs.length ≤ 100000) (s : St) : CallR (En X) 18 [.c (chD cs).toC, .c .nils] s (.w (.c (.dat 1 (tsL [textS cs])))) s :=
  callR_fn (ps := [.c (chD cs), .c .nils]) (pv := .w (.c (.sl 1 (tsL [textS cs])))) h18 (ofG_eq ⟨cs, rfl, hn, rfl⟩ (by
    rintro v' ⟨c', h1, _, rfl⟩
    simp only [List.cons.injEq, PW.c.injEq, and_true] at h1
    rw [chD_inj h1])) (by show ((chD cs).plain && (true && true)) = true; rw [chD_plain]; rfl)
end Ws
