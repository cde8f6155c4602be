import Derived.Test.YtaapmoclinjefaaDoorArE
import Derived.Test.YtaapmoclinjefaaDoorArPl
import Derived.Test.YtaapmoclinjefaaDoorEwL
import Derived.Test.YtaapmoclinjefaaDoorEwL
namespace Ar
open Go Go.Proofs Ev Go.Lib Nu
set_option linter.unusedVariables false
set_option linter.unusedSimpArgs false
set_option linter.unnecessarySimpa false
set_option maxRecDepth 100000
def tblB (i : Nat) : Bool := i == 32 || i == 9 || i == 10
def tblD : List D := (List.range 256).map fun i => .bool (tblB i)
theorem tbl_len : tblD.length = 256 := by simp [tblD]
theorem tbl_at (c : UInt8) : (cellsD tblD)[c.toNat]? = some (.bool (isBl c)) := by
  have h := c.toNat_lt
  have : tblB c.toNat = isBl c := by
    unfold tblB isBl
    have e : ∀ d : UInt8, (c.toNat == d.toNat) = (c == d) := fun d => by
      rw [Bool.eq_iff_iff]; simp [UInt8.toNat_inj]
    rw [← e 32, ← e 9, ← e 10]; rfl
  rw [← this]
  simp [cellsD, tblD, h]
  rfl
theorem rNil_eq (a : A) (x : Operand) : rNil a x = match opC a x with
  | some (.ptr b o) => some (vc (.ptr b o))
  | some (.dp b o) => some (vc (.dp b o))
  | _ => none := rfl
theorem iA69 (X : T Ext) (b : Nat) (c : UInt8) : indexAddr (En X) 69 (.ptr b 0) (Int.ofNat c.toNat) = some (.ptr b c.toNat) := by
  have h : inB (Int.ofNat c.toNat) 256 = some c.toNat := inB_nat c.toNat_lt
  unfold indexAddr
  rw [ua69]
  simp only [h, sz4]
  rw [force_eq]
  show some (C.ptr b (0 + c.toNat * 1)) = _
  rw [Nat.zero_add, Nat.mul_one]
theorem contains46 (X : T Ext) (hX : (En X).ext.get 46 = none) (c : UInt8) (b : Nat) (s : St) (K : V → St → Prop) (hr : LRow s b (cellsD tblD)) (hK : ∀ s' : St, s'.h = s.h → s.nx ≤ s'.nx → K (.w (.c (.bool (isBl c)))) s') :
    goC (En X) 46 [.c (.ptr b 0), .c (.int .u8 (Int.ofNat c.toNat))] s K := by
  refine goC_body hX (kp46 X) (fn46 X) rfl (by kernel_rfl) ?_
  have hres : Tryd.f46.results.toList = [.tmp 4] := rfl
  have c0 : ldHC s.h.get b c.toNat = some (.c (.bool (isBl c))) := hr.ldC (tbl_at c)
  simp only [zEV, Nat.reduceShiftRight, Nat.reduceMod, Nat.reduceEqDiff, Nat.reduceAdd, ↓reduceIte, reduceCtorEq, rNil_eq, iA69, ldh4, c0, hres]
  exact hK _ rfl (by simp)

theorem gt0_cons (c : UInt8) (r : List UInt8) : (0 < Int.ofNat (c :: r).length) = True := eq_true (Int.natCast_pos.2 (by simp))
theorem trimASCII33 (X : T Ext) (hX : (En X).ext.get 33 = none) (hX1 : (En X).ext.get 46 = none) (l : List UInt8) (b : Nat) (s : St) (K : V → St → Prop) (hr : LRow s b (cellsD tblD)) (hK : ∀ s' : St, s'.h = s.h → s.nx ≤ s'.nx → K (.w (.c (.str (Str.ofL (dropBl l))))) s') :
    goC (En X) 33 [.c (.str (Str.ofL l)), .c (.ptr b 0)] s K := by
  refine goC_body hX (kp33 X) (fn33 X) rfl (by kernel_rfl) ?_
  have hres : Tryd.f33.results.toList = [.tmp 4] := rfl
  simp only [zEV, Nat.reduceShiftRight, Nat.reduceMod, Nat.reduceEqDiff, Nat.reduceAdd, ↓reduceIte, reduceCtorEq]
  refine go_loop (goL_inv (fun n a' s' => ∃ m, n = m.length ∧ Has a' 0 (vc (.str (Str.ofL m))) ∧ Has a' 1 (vc (.ptr b 0)) ∧ dropBl m = dropBl l ∧ s'.h = s.h ∧ s.nx ≤ s'.nx) (n := l.length) ⟨l, rfl, ⟨rfl, rfl⟩, ⟨rfl, rfl⟩, rfl, rfl, Nat.le_refl _⟩ ?_)
  rintro n' a' s' ⟨m, rfl, ⟨g0, k0⟩, ⟨g1, k1⟩, hm, hh, hn⟩
  have hlen : ∀ look, len (En X) 9 look (.str (Str.ofL m)) = some m.length := fun look => len_ofL (ustr9 X) look m
  cases m with
  | nil =>
    have hlt : (0 < Int.ofNat ([] : List UInt8).length) = False := eq_false (by decide)
    have hd : dropBl l = [] := hm.symm
    rw [hd] at hK
    simp only [zEV, Nat.reduceShiftRight, Nat.reduceMod, Nat.reduceEqDiff, Nat.reduceAdd, ↓reduceIte, reduceCtorEq, g0, k0, g1, k1, hlen, hlt, hres]
    exact hK _ hh hn
  | cons c r =>
    have hlt := gt0_cons c r
    have hi0 : index (En X) 9 (.c (.str (Str.ofL (c :: r)))) 0 = some (.c (.int .u8 (Int.ofNat c.toNat))) := index_str X (c :: r) (i := 0) (c := c) rfl
    simp only [zEV, Nat.reduceShiftRight, Nat.reduceMod, Nat.reduceEqDiff, Nat.reduceAdd, ↓reduceIte, reduceCtorEq, g0, k0, g1, k1, hlen, hlt, rIndex_eq, hi0]
    refine go_call _ _ _ _ _ _ (ws := [.c (.ptr b 0), .c (.int .u8 (Int.ofNat c.toNat))]) rfl (by simp only [zEV, Nat.reduceShiftRight, Nat.reduceMod, Nat.reduceEqDiff, Nat.reduceAdd, ↓reduceIte, reduceCtorEq, g0, k0, g1, k1, argsOf_cons, argsOf_nil]) ?_
    refine contains46 X hX1 c b s' _ (hr.keep (by rw [hh])) fun s2 hh2 hn2 => ?_
    have hh3 : s2.h = s.h := hh2.trans hh
    by_cases hb : isBl c = true
    · have hd : dropBl (c :: r) = dropBl r := by unfold dropBl; rw [List.dropWhile_cons, if_pos hb]
      have t1 : ∀ look, slice (En X) 9 (.str (Str.ofL (c :: r))) (some (.int .i64 1)) none none look = some (.str (Str.ofL r)) := fun look => slice_sdrop (ustr9 X) look (c :: r) (show 1 ≤ (c :: r).length by simp)
      simp only [zEV, Nat.reduceShiftRight, Nat.reduceMod, Nat.reduceEqDiff, Nat.reduceAdd, ↓reduceIte, reduceCtorEq, g0, k0, g1, k1, hb, rSlice_lo, t1]
      refine ⟨r.length, by simp, r, rfl, ⟨?_, ?_⟩, ⟨?_, ?_⟩, hd.symm.trans hm, hh3, by omega⟩
      all_goals first | (simp only [zEA, Nat.reduceShiftRight, Nat.reduceMod, Nat.reduceEqDiff, Nat.reduceAdd, ↓reduceIte, reduceCtorEq, g0, k0, g1, k1]; done) | omega
    · have hb : isBl c = false := by simpa using hb
      have hd : dropBl (c :: r) = c :: r := by unfold dropBl; rw [List.dropWhile_cons, if_neg (by rw [hb]; simp)]
      rw [← hm, hd] at hK
      simp only [zEV, Nat.reduceShiftRight, Nat.reduceMod, Nat.reduceEqDiff, Nat.reduceAdd, ↓reduceIte, reduceCtorEq, g0, k0, g1, k1, hb, hres]
      exact hK _ hh3 (by omega)
theorem lit_0 : Str.of { data := #[] } = Str.ofL [] := of_lit []
def litBl : List UInt8 := [32, 9, 10]
def RSet (ps : List PW) (v : PV) : Prop := ps = [.c (.str (Str.ofL litBl))] ∧ v = .tup [.agg tblD, .c (.bool true)]
noncomputable def e32 : Nat × Ext := (32, .fn (ofG RSet) [])
theorem set_run : frzRun (runF (envOf Tryd.prog [] kps) 20 (200 + 1) 32 [.c (.str (Str.ofL litBl))] (st0 [] Tryd.prog.globals.size)) = some (.tup [.agg tblD, .c (.bool true)]) := by kernel_rfl
theorem c32 : Ok e32 := ext_frz Ak.any_ok types_ok fns_ok ok0 [] rfl rfl _ 20 200 (by
  intro ps pv h
  obtain ⟨rfl, rfl⟩ := ofG_some h
  exact set_run)
theorem callR_set {X : T Ext} (h32 : (En X).ext.get 32 = some (.fn (ofG RSet) [])) (s : St) : CallR (En X) 32 [.c (.str (Str.ofL litBl))] s (.tup [.agg (cellsD tblD), .c (.bool true)]) s :=
  callR_fn (ps := [.c (.str (Str.ofL litBl))]) (pv := .tup [.agg tblD, .c (.bool true)]) h32 (ofG_eq ⟨rfl, rfl⟩ fun v' h => h.2) rfl
theorem st69 (X : T Ext) (s : St) (b o : Nat) (w : W) : store (En X) 69 s b o w = if w.cells.length = 256 then writeL s b o w.cells else none := store_of (tab69 X) tis69 s b o w
def zs69 : List C := (List.range 256).map fun _ => .bool false
theorem al69' (X : T Ext) (id : Nat) : nAlloc (En X) 69 id = some (vc (.ptr id 0), .row (mkRow zs69)) := al69 X id
theorem trim19 (X : T Ext) (hX : (En X).ext.get 19 = none) (hX1 : (En X).ext.get 33 = none) (hX2 : (En X).ext.get 46 = none) (h32 : (En X).ext.get 32 = some (.fn (ofG RSet) [])) (l : List UInt8) (s : St) (K : V → St → Prop) (hK : ∀ s' : St, K (.w (.c (.str (Str.ofL (dropBl l))))) s') :
    goC (En X) 19 [.c (.str (Str.ofL l)), .c (.str (Str.ofL litBl))] s K := by
  refine goC_body hX (kp19 X) (fn19 X) rfl (by kernel_rfl) ?_
  have hres : Tryd.f19.results.toList = [.tmp 4] := rfl
  have hb2 : (litBl == ([] : List UInt8)) = false := by decide
  have hlb : ∀ look, len (En X) 9 look (.str (Str.ofL litBl)) = some 3 := fun look => len_ofL (ustr9 X) look litBl
  by_cases hz : l = []
  · subst hz
    have hb : (([] : List UInt8) == []) = true := rfl
    simp only [zEV, Nat.reduceShiftRight, Nat.reduceMod, Nat.reduceEqDiff, Nat.reduceAdd, ↓reduceIte, reduceCtorEq, lit_0, hb, hres]
    exact hK _
  · have hb : (l == []) = false := by simpa using hz
    have h1 : (Int.ofNat 3 = 1) = False := eq_false (by decide)
    simp only [zEV, Nat.reduceShiftRight, Nat.reduceMod, Nat.reduceEqDiff, Nat.reduceAdd, ↓reduceIte, reduceCtorEq, lit_0, hb, hb2, hlb, h1]
    refine go_call _ _ _ _ _ _ (ws := [.c (.str (Str.ofL litBl))]) rfl (by simp only [zEA, Nat.reduceShiftRight, Nat.reduceMod, Nat.reduceEqDiff, Nat.reduceAdd, ↓reduceIte, reduceCtorEq, argsOf_cons, argsOf_nil]) ?_
    refine goC_of (callR_set h32 _) ?_
    have q0 := LRow.new s zs69
    have hcl : (cellsD tblD).length = 256 := by rw [cellsD, List.length_map, tbl_len]
    have hzl : zs69.length = 256 := by simp [zs69]
    obtain ⟨s2, hw, q1, n1, f1⟩ := q0.over (r := cellsD tblD) (hcl.trans hzl.symm)
    simp only [zEV, Nat.reduceShiftRight, Nat.reduceMod, Nat.reduceEqDiff, Nat.reduceAdd, ↓reduceIte, reduceCtorEq, go_alloc, al69', st69, hcl, hw]
    refine go_call _ _ _ _ _ _ (ws := [.c (.str (Str.ofL l)), .c (.ptr s.nx 0)]) rfl (by simp only [zEA, Nat.reduceShiftRight, Nat.reduceMod, Nat.reduceEqDiff, Nat.reduceAdd, ↓reduceIte, reduceCtorEq, argsOf_cons, argsOf_nil]) ?_
    refine trimASCII33 X hX1 hX2 l s.nx s2 _ q1 fun s3 hh hn => ?_
    simp only [zEV, Nat.reduceShiftRight, Nat.reduceMod, Nat.reduceEqDiff, Nat.reduceAdd, ↓reduceIte, reduceCtorEq, hres]
    exact hK _
def RTrim (ps : List PW) (v : PV) : Prop := ∃ l, ps = [.c (.str (Str.ofL l)), .c (.str (Str.ofL litBl))] ∧ v = .w (.c (.str (Str.ofL (dropBl l))))
noncomputable def e19 : Nat × Ext := (19, .fn (ofG RTrim) [])
theorem c19 : Ok e19 := fn_of_go_g (exts := [e32]) (ok1 c32 ok0) rfl [] rfl _ (by
  rintro ps pv ⟨l, rfl, rfl⟩
  exact trim19 _ rfl rfl rfl rfl l _ _ fun s' => ⟨[], rfl⟩)
theorem callR_trim {X : T Ext} (h19 : (En X).ext.get 19 = some (.fn (ofG RTrim) [])) (l : List UInt8) (s : St) : CallR (En X) 19 [.c (.str (Str.ofL l)), .c (.str (Str.ofL litBl))] s (.w (.c (.str (Str.ofL (dropBl l))))) s :=
  callR_fn (ps := [.c (.str (Str.ofL l)), .c (.str (Str.ofL litBl))]) (pv := .w (.c (.str (Str.ofL (dropBl l))))) h19 (ofG_eq ⟨l, rfl, rfl⟩ (by rintro v' ⟨l', h1, rfl⟩; rw [str_one h1])) rfl
end Ar
