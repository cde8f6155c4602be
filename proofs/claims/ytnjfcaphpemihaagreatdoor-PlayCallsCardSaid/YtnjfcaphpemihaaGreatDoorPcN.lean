import Derived.Test.YtnjfcaphpemihaaGreatDoorPcM
import Derived.Test.YtnjfcaphpemihaaGreatDoorEwL
namespace Pc
open Go Go.Proofs Ev
set_option linter.unusedVariables false
set_option linter.unusedSimpArgs false
set_option maxRecDepth 100000
def RB (P Q : List PW → Prop) (ps : List PW) (v : PV) : Prop := P ps ∧ ∃ t : Bool, (t = true ↔ Q ps) ∧ v = .w (.c (.bool t))
theorem callR_B {E : Env} {f : Nat} {P Q : List PW → Prop} {ps : List PW} {s : St} (hx : E.ext.get f = some (.fn (ofG (RB P Q)) [])) (hP : P ps) (hp : ps.all PW.plain = true) {t : Bool} (ht : t = true ↔ Q ps) : CallR E f (ps.map PW.toW) s (.w (.c (.bool t))) s :=
  callR_fn (ps := ps) (pv := .w (.c (.bool t))) hx (ofG_eq ⟨hP, t, ht, rfl⟩ (by
    rintro v' ⟨_, t', e2, rfl⟩
    have : t' = t := by rw [Bool.eq_iff_iff, e2, ht]
    rw [this])) hp
theorem tOf (p : Prop) : ∃ t : Bool, t = true ↔ p := by
  by_cases h : p
  · exact ⟨true, by simp [h]⟩
  · exact ⟨false, by simp [h]⟩
theorem b_contract {exts : List (Nat × Ext)} (f : Nat) (P Q : List PW → Prop) (any : Tryz.prog.follows .mixedOrders = true) (ty : typesOk Tryz.prog = true) (fo : kps.all (fun p => fnOk Tryz.prog p.1) = true)
    (hx : ∀ q ∈ exts, ExtOne Tryz.prog Tryz.prog.globals.size q.1 q.2) (hf : (pairT exts .nil).get f = none)
    (h : ∀ ps s K, P ps → (∀ (t : Bool) s', (t = true ↔ Q ps) → K (vc (.bool t)) s') → goC (En (pairT exts .nil)) f (ps.map PW.toW) s K) : ExtOne Tryz.prog Tryz.prog.globals.size f (.fn (ofG (RB P Q)) []) :=
  fn_of_go any ty fo hx hf _ (by
    rintro ps pv ⟨hP, t, ht, rfl⟩
    refine h ps _ _ hP fun t' s' ht' => ⟨[], ?_⟩
    have : t' = t := by rw [Bool.eq_iff_iff, ht, ht']
    rw [this]; rfl)
def pOO : List PW → Prop
  | [.agg x, .agg y] => GoodO x ∧ GoodO y
  | _ => False
def q17 : List PW → Prop
  | [.agg x, .agg y] => SameF x y ∧ eqCalls (callsO x) (callsO y)
  | _ => False
theorem goodO_plain {x : List D} (h : GoodO x) : x.all D.plain = true := by
  obtain ⟨e, st, ot, fl, vr, ca, rfl, h1, h2, h3⟩ := h
  simp only [List.all_cons, List.all_nil, isels_plain h1.el, isels_plain h2.el, isels_plain h3.el]; rfl
def zeroO : List D := [.int .i64 0, .int .i64 0, .str (Str.ofL []), .nils, .nils, .nils]
theorem good_nils (z : Nat) (p : List D → Prop) : Good z p .nils := ⟨.inl rfl, (fun x hx => by simp [els] at hx), Nat.zero_le _⟩
theorem zeroO_good : GoodO zeroO := ⟨0, 0, [], .nils, .nils, .nils, rfl, good_nils _ _, good_nils _ _, good_nils _ _⟩
theorem ofL_nil : Str.ofL [] = ⟨0, 0⟩ := by kernel_rfl
theorem zeroO_cells : cellsD zeroO = [.int .i64 0, .int .i64 0, .str ⟨0, 0⟩, .nils, .nils, .nils] := by
  show [C.int .i64 0, C.int .i64 0, C.str (Str.ofL []), C.nils, C.nils, C.nils] = _
  rw [ofL_nil]
def lastO (os : List (List D)) : List D := os.getLastD zeroO
theorem lastO_good {os : List (List D)} (h : ∀ o ∈ os, GoodO o) : GoodO (lastO os) := by
  unfold lastO
  cases os with
  | nil => exact zeroO_good
  | cons a l =>
    have : (a :: l).getLastD zeroO ∈ a :: l := by
      rw [List.getLastD_eq_getLast?, List.getLast?_eq_some_getLast (List.cons_ne_nil a l)]
      exact List.getLast_mem _
    exact h _ this
theorem lastO_at {os : List (List D)} (h : os ≠ []) : os[os.length - 1]? = some (lastO os) := by
  unfold lastO
  rw [← List.getLast?_eq_getElem?, List.getLastD_eq_getLast?]
  cases hh : os.getLast? with
  | none => exact absurd (List.getLast?_eq_none_iff.1 hh) h
  | some x => rfl
theorem goodO_len {x : List D} (h : GoodO x) : (cellsD x).length = 6 := by
  obtain ⟨e, st, ot, fl, vr, ca, rfl, _⟩ := h; rfl
theorem ldA6 {x : List D} (h : GoodO x) : ldA 6 x 0 = some (.agg (cellsD x)) := by
  obtain ⟨e, st, ot, fl, vr, ca, rfl, _⟩ := h
  rfl
theorem LRow.ldA6 {s : St} {b : Nat} {x : List D} (hx : GoodO x) (h : LRow s b (cellsD x)) : ldHA 6 s.h.get b 0 = some (.agg (cellsD x)) := by
  have := h.ldA; rwa [goodO_len hx] at this
theorem bu28 (X : T Ext) (a : A) : rBuild (En X) a 28 [] = some (.w (.agg (cellsD zeroO))) := by
  rw [zeroO_cells]; kernel_rfl
def RLast (ps : List PW) (v : PV) : Prop := ∃ d, ps = [.c d] ∧ Good 6 GoodO d ∧ v = .tup [.agg (lastO (els d)), .c (.bool (!decide (els d = [])))]
theorem last23 (X : T Ext) (hX : (En X).ext.get 4 = none) (d : D) (s : St) (hd : Good 6 GoodO d) (K : V → St → Prop)
    (hK : ∀ s', K (.tup [.agg (cellsD (lastO (els d))), .c (.bool (!decide (els d = [])))]) s') : goC (En X) 4 [.c d.toC] s K := by
  refine goC_body hX (kp4 X) (fn4 X) rfl (by kernel_rfl) ?_
  have hl : ∀ look, len (En X) 22 look d.toC = some (els d).length := fun look => len_els (us22 X) hd.el
  have hgo := lastO_good hd.all
  obtain ⟨s1, w1, r1, n1, o1⟩ := row_written s [.int .i64 0, .int .i64 0, .str ⟨0, 0⟩, .nils, .nils, .nils] (cellsD (lastO (els d))) (goodO_len hgo)
  have hl1 := LRow.ldA6 hgo r1
  have hres : Tryz.f4.results.toList = [.cell 2 28, .tmp 3] := rfl
  by_cases h0 : els d = []
  · have hlo : lastO (els d) = zeroO := by rw [h0]; rfl
    have hz : (Int.ofNat (els d).length = 0) = True := by rw [h0]; exact eq_true rfl
    rw [hlo] at w1 hl1 hK
    have hK : ∀ s', K (.tup [.agg (cellsD zeroO), .c (.bool false)]) s' := by simpa [h0] using hK
    simp only [zEV, Nat.reduceShiftRight, Nat.reduceMod, Nat.reduceEqDiff, Nat.reduceAdd, ↓reduceIte, reduceCtorEq, hl, hz, al28, st28, bu28, goodO_len zeroO_good, w1, ldh28, hl1, hres]
    exact hK _
  · have hp : 0 < (els d).length := List.length_pos_iff.2 h0
    have hz : (Int.ofNat (els d).length = 0) = False := eq_false (by show ¬ (((els d).length : Nat) : Int) = 0; omega)
    have hix := index_els (us22 X) (sz28 X) hd.el (lastO_at h0)
    have hle := hd.len
    have hml : maxLen = 9223372036854775807 := rfl
    have hsu : wrapK .i64 (Int.ofNat (els d).length - 1) = Int.ofNat ((els d).length - 1) := by
      have : Int.ofNat (els d).length - 1 = Int.ofNat ((els d).length - 1) := by show ((els d).length : Int) - 1 = (((els d).length - 1 : Nat) : Int); omega
      rw [this, wrap_nat (by omega)]
    have hK : ∀ s', K (.tup [.agg (cellsD (lastO (els d))), .c (.bool true)]) s' := by simpa [h0] using hK
    simp only [zEV, Nat.reduceShiftRight, Nat.reduceMod, Nat.reduceEqDiff, Nat.reduceAdd, ↓reduceIte, reduceCtorEq, hl, hz, hsu, hix, al28, st28, ld28, ldA6 hgo, goodO_len hgo, w1, ldh28, hl1, hres]
    exact hK _
theorem goC_last {E : Env} {f : Nat} {d : D} {s : St} {K : V → St → Prop} (hx : E.ext.get f = some (.fn (ofG RLast) [])) (hd : Good 6 GoodO d) (hk : K (.tup [.agg (cellsD (lastO (els d))), .c (.bool (!decide (els d = [])))]) s) :
    goC E f [.c d.toC] s K :=
  goC_fn (ps := [.c d]) (pv := .tup [.agg (lastO (els d)), .c (.bool (!decide (els d = [])))]) hx ⟨d, rfl, hd, rfl⟩ (by
    rintro v' ⟨d', h1, _, rfl⟩
    cases h1; rfl) (by simp [PW.plain, isels_plain hd.el]) hk
theorem last_contract {exts : List (Nat × Ext)} (any : Tryz.prog.follows .mixedOrders = true) (ty : typesOk Tryz.prog = true) (fo : kps.all (fun p => fnOk Tryz.prog p.1) = true)
    (hx : ∀ q ∈ exts, ExtOne Tryz.prog Tryz.prog.globals.size q.1 q.2) (hf : (pairT exts .nil).get 4 = none) : ExtOne Tryz.prog Tryz.prog.globals.size 4 (.fn (ofG RLast) []) :=
  fn_of_go any ty fo hx hf _ (by
    rintro ps pv ⟨d, rfl, hd, rfl⟩
    refine last23 _ hf d _ hd _ fun s' => ⟨[], ?_⟩
    have hz := frzWs_plain s'.h.get [.agg (lastO (els d)), .c (.bool (!decide (els d = [])))] (by
      have := goodO_plain (lastO_good hd.all)
      simp [PW.plain, this, D.plain])
    show (match frzWs s'.h.get [.agg (cellsD (lastO (els d))), .c (.bool (!decide (els d = [])))] with | some (ds, bs) => some (PV.tup ds, bs) | none => none) = _
    have hz' : frzWs s'.h.get [.agg (cellsD (lastO (els d))), .c (.bool (!decide (els d = [])))] = some ([.agg (lastO (els d)), .c (.bool (!decide (els d = [])))], []) := hz
    rw [hz'])
end Pc
