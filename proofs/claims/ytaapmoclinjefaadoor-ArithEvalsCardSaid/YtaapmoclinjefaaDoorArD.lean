import Derived.Test.YtaapmoclinjefaaDoorArC
import Derived.Test.YtaapmoclinjefaaDoorAkA
import Derived.Test.YtaapmoclinjefaaDoorEwL
namespace Ar
open Go Go.Proofs Ev Go.Lib Nu
set_option linter.unusedVariables false
set_option linter.unusedSimpArgs false
set_option linter.unnecessarySimpa false
set_option maxRecDepth 100000
def Ok (q : Nat × Ext) : Prop := ExtOne Tryd.prog Tryd.prog.globals.size q.1 q.2
def Oks (l : List (Nat × Ext)) : Prop := ∀ q ∈ l, Ok q
theorem ok0 : Oks [] := fun q h => by cases h
theorem ok1 {q : Nat × Ext} {l : List (Nat × Ext)} (h : Ok q) (hl : Oks l) : Oks (q :: l) := by
  intro x hx
  rcases List.mem_cons.1 hx with rfl | hx
  · exact h
  · exact hl x hx
theorem types_ok : typesOk Tryd.prog = true := by kernel_rfl
theorem fns_ok : kps.all (fun p => fnOk Tryd.prog p.1) = true := by kernel_rfl
def e51 : Nat × Ext := (87, .indexByte)
theorem c51 : Ok e51 := Ak.ib_ok
def e40 : Nat × Ext := (76, .same)
theorem c40 : Ok e40 := Ak.clone_ok
noncomputable def e17 : Nat × Ext := (43, .fn (ofG RPi) [])
theorem c17 : Ok e17 := pi_ok
theorem fn_of_go_g {exts : List (Nat × Ext)} (hx : Oks exts) {f : Nat} (hf : (pairT exts .nil).get f = none) (gs : List (Nat × List C)) (hgs : gs.all (fun p => and (p.2.all plainC) (decide (p.1 < Tryd.prog.globals.size))) = true) (R : List PW → PV → Prop)
    (h : ∀ ps pv, R ps pv → goC (En (pairT exts .nil)) f (ps.map PW.toW) (st0 gs Tryd.prog.globals.size) fun v s' => ∃ bs, frzV s'.h.get v = some (pv, bs)) : Ok (f, .fn (ofG R) gs) := by
  refine ext_fn hgs (pure_of_run any_ok types_ok fns_ok hx hf gs _ fun ps pv hp => ?_)
  obtain ⟨v, s', ⟨N, hN⟩, bs, hz⟩ := h ps pv (ofG_some hp)
  exact ⟨N, N, v, s', bs, hN N (N + 1) (Nat.le_refl _) (Nat.le_succ _), hz⟩
theorem callR_fn_g {E : Env} {f : Nat} {F : List PW → Option PV} {gs : List (Nat × List C)} {ps : List PW} {pv : PV} {s : St} (hx : E.ext.get f = some (.fn F gs)) (hg : rowsAre s.h.get gs = true) (hF : F ps = some pv) (hp : ps.all PW.plain = true) : CallR E f (ps.map PW.toW) s pv.toV s := by
  refine callR_ext hx ?_
  show (match rowsAre s.h.get gs with | true => extFn F (ps.map PW.toW) s | false => .no) = _
  rw [hg]
  simp only [extFn, frzWs_plain s.h.get ps hp, hF]
  cases pv.scal <;> simp [sealS_nil]
def RPre (ps : List PW) (v : PV) : Prop := ∃ l, ps = [.c (.str (Str.ofL l)), .c (.str (Str.ofL [43]))] ∧ v = .w (.c (.bool (l.head? == some 43)))
noncomputable def e8 : Nat × Ext := (27, .fn (ofG RPre) [])
theorem c8 : Ok e8 := fn_of_go_g (exts := []) ok0 rfl [] rfl _ (by
  rintro ps pv ⟨l, rfl, rfl⟩
  exact prefix8 _ rfl rfl l _ _ fun s' => ⟨[], rfl⟩)
def RCon (ps : List PW) (v : PV) : Prop := ∃ l, ps = [.c (.str (Str.ofL l)), .c (.str (Str.ofL [95]))] ∧ v = .w (.c (.bool (l.contains 95)))
noncomputable def e9 : Nat × Ext := (28, .fn (ofG RCon) [])
theorem c9 : Ok e9 := fn_of_go_g (exts := [e51]) (ok1 c51 ok0) rfl [] rfl _ (by
  rintro ps pv ⟨l, rfl, rfl⟩
  exact contains9 _ rfl rfl rfl rfl rfl l _ _ fun s' => ⟨[], rfl⟩)
theorem str_one {l l' : List UInt8} {x y : List PW} (h : PW.c (.str (Str.ofL l)) :: x = PW.c (.str (Str.ofL l')) :: y) : l = l' := by
  simp only [List.cons.injEq, PW.c.injEq, D.str.injEq] at h
  exact ofL_inj h.1
theorem callR_pre {X : T Ext} (h8 : (En X).ext.get 27 = some (.fn (ofG RPre) [])) (l : List UInt8) (s : St) : CallR (En X) 27 [.c (.str (Str.ofL l)), .c (.str (Str.ofL [43]))] s (.w (.c (.bool (l.head? == some 43)))) s :=
  callR_fn (ps := [.c (.str (Str.ofL l)), .c (.str (Str.ofL [43]))]) (pv := .w (.c (.bool (l.head? == some 43)))) h8 (ofG_eq ⟨l, rfl, rfl⟩ (by rintro v' ⟨l', h1, rfl⟩; rw [str_one h1])) rfl
theorem callR_con {X : T Ext} (h9 : (En X).ext.get 28 = some (.fn (ofG RCon) [])) (l : List UInt8) (s : St) : CallR (En X) 28 [.c (.str (Str.ofL l)), .c (.str (Str.ofL [95]))] s (.w (.c (.bool (l.contains 95)))) s :=
  callR_fn (ps := [.c (.str (Str.ofL l)), .c (.str (Str.ofL [95]))]) (pv := .w (.c (.bool (l.contains 95)))) h9 (ofG_eq ⟨l, rfl, rfl⟩ (by rintro v' ⟨l', h1, rfl⟩; rw [str_one h1])) rfl
theorem num4 (X : T Ext) (hX : (En X).ext.get 15 = none) (h8 : (En X).ext.get 27 = some (.fn (ofG RPre) [])) (h9 : (En X).ext.get 28 = some (.fn (ofG RCon) [])) (hX10 : (En X).ext.get 29 = none) (hX18 : (En X).ext.get 44 = none) (hX24 : (En X).ext.get 54 = none) (hX25 : (En X).ext.get 55 = none)
    (h17 : (En X).ext.get 43 = some (.fn (ofG RPi) [])) (h40 : (En X).ext.get 76 = some .same) (l : List UInt8) (hl : l.length ≤ 140737488351232) (s : St) (hg1 : ldHC s.h.get 1 0 = some (.c .unk)) (hg2 : ldHC s.h.get 2 0 = some (.c .unk)) (K : V → St → Prop) (hK : ∀ s', K (resN (numOf l)) s') :
    goC (En X) 15 [.c (.str (Str.ofL l))] s K := by
  refine goC_body hX (kp15 X) (fn15 X) rfl (by kernel_rfl) ?_
  have hres : Tryd.f15.results.toList = [.tmp 2, .tmp 3] := rfl
  simp only [zEV, Nat.reduceShiftRight, Nat.reduceMod, Nat.reduceEqDiff, Nat.reduceAdd, ↓reduceIte, reduceCtorEq, lit_plus]
  refine go_call _ _ _ _ _ _ (ws := [.c (.str (Str.ofL l)), .c (.str (Str.ofL [43]))]) rfl (by simp only [zEA, Nat.reduceShiftRight, Nat.reduceMod, Nat.reduceEqDiff, Nat.reduceAdd, ↓reduceIte, reduceCtorEq, argsOf_cons, argsOf_nil, lit_plus]) ?_
  refine goC_of (callR_pre h8 l s) ?_
  by_cases hp : l.head? = some 43
  · have e1 : (l.head? == some 43) = true := by rw [hp]; rfl
    rw [show numOf l = none by unfold numOf; rw [if_pos hp]] at hK
    simp only [zEV, Nat.reduceShiftRight, Nat.reduceMod, Nat.reduceEqDiff, Nat.reduceAdd, ↓reduceIte, reduceCtorEq, e1, hres]
    exact hK _
  have e1 : (l.head? == some 43) = false := by simpa using hp
  simp only [zEV, Nat.reduceShiftRight, Nat.reduceMod, Nat.reduceEqDiff, Nat.reduceAdd, ↓reduceIte, reduceCtorEq, e1]
  refine go_call _ _ _ _ _ _ (ws := [.c (.str (Str.ofL l)), .c (.str (Str.ofL [95]))]) rfl (by simp only [zEA, Nat.reduceShiftRight, Nat.reduceMod, Nat.reduceEqDiff, Nat.reduceAdd, ↓reduceIte, reduceCtorEq, argsOf_cons, argsOf_nil, lit_under]) ?_
  refine goC_of (callR_con h9 l s) ?_
  cases hu : l.contains 95 with
  | true =>
    rw [show numOf l = none by unfold numOf; rw [if_neg hp, if_pos hu]] at hK
    simp only [zEV, Nat.reduceShiftRight, Nat.reduceMod, Nat.reduceEqDiff, Nat.reduceAdd, ↓reduceIte, reduceCtorEq, hres]
    exact hK _
  | false =>
    simp only [zEV, Nat.reduceShiftRight, Nat.reduceMod, Nat.reduceEqDiff, Nat.reduceAdd, ↓reduceIte, reduceCtorEq]
    refine go_call _ _ _ _ _ _ (ws := [.c (.str (Str.ofL l)), .c (.int .i64 10), .c (.int .i64 64)]) rfl (by simp only [zEA, Nat.reduceShiftRight, Nat.reduceMod, Nat.reduceEqDiff, Nat.reduceAdd, ↓reduceIte, reduceCtorEq, argsOf_cons, argsOf_nil]) ?_
    refine parse10 X hX10 hX18 hX24 hX25 h17 h40 l hl s hg1 hg2 _ (fun n s2 hn => ?_) (fun n c s2 hn => ?_)
    · rw [show numOf l = some n by unfold numOf; rw [if_neg hp, if_neg (by rw [hu]; simp), hn]] at hK
      simp only [zEV, Nat.reduceShiftRight, Nat.reduceMod, Nat.reduceEqDiff, Nat.reduceAdd, ↓reduceIte, reduceCtorEq, opW_nili, opnd_nili, b_nili, hres]
      exact hK _
    · rw [show numOf l = none by unfold numOf; rw [if_neg hp, if_neg (by rw [hu]; simp)]; cases hq : parseIntB 64 l with | ok v => exact absurd hq (hn v) | «syntax» => rfl | range => rfl] at hK
      simp only [zEV, Nat.reduceShiftRight, Nat.reduceMod, Nat.reduceEqDiff, Nat.reduceAdd, ↓reduceIte, reduceCtorEq, opW_nili, opnd_nili, b_ifcn, hres]
      exact hK _
def gsE : List (Nat × List C) := [(1, [.unk]), (2, [.unk])]
theorem gsE_ok : gsE.all (fun p => and (p.2.all plainC) (decide (p.1 < Tryd.prog.globals.size))) = true := by kernel_rfl
theorem gsE_1 : ldHC (st0 gsE Tryd.prog.globals.size).h.get 1 0 = some (.c .unk) := by kernel_rfl
theorem gsE_2 : ldHC (st0 gsE Tryd.prog.globals.size).h.get 2 0 = some (.c .unk) := by kernel_rfl
def pvN (o : Option Int) : PV := .tup [.c (.int .i64 (o.getD 0)), .c (.bool o.isSome)]
def RNum (ps : List PW) (v : PV) : Prop := ∃ l, ps = [.c (.str (Str.ofL l))] ∧ l.length ≤ 140737488351232 ∧ v = pvN (refNum l)
noncomputable def exts4 : List (Nat × Ext) := [e8, e9, e17, e40]
theorem oks4 : Oks exts4 := ok1 c8 (ok1 c9 (ok1 c17 (ok1 c40 ok0)))
noncomputable def e4 : Nat × Ext := (15, .fn (ofG RNum) gsE)
theorem c4 : Ok e4 := fn_of_go_g (exts := exts4) oks4 rfl gsE gsE_ok _ (by
  rintro ps pv ⟨l, rfl, hl, rfl⟩
  refine num4 _ rfl rfl rfl rfl rfl rfl rfl rfl rfl l hl _ gsE_1 gsE_2 _ fun s' => ⟨[], ?_⟩
  rw [num_eq]; rfl)
end Ar
