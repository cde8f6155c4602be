import Derived.Test.YtgpdamhijknegaaGreatDoorRlA
import Derived.Test.YtgpdamhijknegaaGreatDoorEwG
import Derived.Test.YtgpdamhijknegaaGreatDoorEwJ
namespace Rl
open Go Go.Proofs Ev
set_option linter.unusedVariables false
set_option linter.unusedSimpArgs false
set_option maxRecDepth 100000
def Str1 (x : List D) : Prop := ∃ l, x = [.str (Str.ofL l)]
def Str2 (x : List D) : Prop := ∃ l r, x = [.str (Str.ofL l), .str (Str.ofL r)]
structure Good (z : Nat) (p : List D → Prop) (d : D) : Prop where
  el : IsEls z d
  all : ∀ x ∈ els d, p x
  len : (els d).length ≤ maxLen
def GoodC (x : List D) : Prop := ∃ n argv vars inp, x = [.int .i64 n, argv, vars, .str (Str.ofL inp)] ∧ Good 1 Str1 argv ∧ Good 2 Str2 vars ∧ -9223372036854775808 ≤ n ∧ n ≤ 9223372036854775807
def GoodO (o : List D) : Prop := ∃ e st ot fl vr ca, o = [.int .i64 e, .int .i64 st, .str (Str.ofL ot), fl, vr, ca] ∧ Good 2 Str2 fl ∧ Good 2 Str2 vr ∧ Good 4 GoodC ca
def callsO (o : List D) : List (List D) := els (o.getD 5 .nils)
theorem isels_plain {z : Nat} {d : D} (h : IsEls z d) : d.plain = true := by rcases h with rfl | ⟨l, rfl, _⟩ <;> rfl
theorem goodC_plain {x : List D} (h : GoodC x) : x.all D.plain = true := by
  obtain ⟨n, av, vs, inp, rfl, h1, h2, _⟩ := h
  simp only [List.all_cons, List.all_nil, isels_plain h1.el, isels_plain h2.el]; rfl
theorem goodC_len {x : List D} (h : GoodC x) : x.length = 4 := by obtain ⟨n, av, vs, inp, rfl, h1, h2⟩ := h; rfl
theorem flat_plain {l : List (List D)} (h : ∀ x ∈ l, GoodC x) : l.flatten.all D.plain = true := by
  rw [List.all_eq_true]
  intro d hd
  obtain ⟨x, hx, hdx⟩ := List.mem_flatten.1 hd
  exact List.all_eq_true.1 (goodC_plain (h x hx)) d hdx
def RB (P Q : List PW → Prop) (ps : List PW) (v : PV) : Prop := P ps ∧ ∃ t : Bool, (t = true ↔ Q ps) ∧ v = .w (.c (.bool t))
theorem callR_B {E : Env} {f : Nat} {P Q : List PW → Prop} {ps : List PW} {s : St} (hx : E.ext.get f = some (.fn (ofG (RB P Q)) [])) (hP : P ps) (hp : ps.all PW.plain = true) {t : Bool} (ht : t = true ↔ Q ps) : CallR E f (ps.map PW.toW) s (.w (.c (.bool t))) s :=
  callR_fn (ps := ps) (pv := .w (.c (.bool t))) hx (ofG_eq ⟨hP, t, ht, rfl⟩ (by
    rintro v' ⟨_, t', e2, rfl⟩
    have : t' = t := by rw [Bool.eq_iff_iff, e2, ht]
    rw [this])) hp
theorem tOf (p : Prop) : ∃ t : Bool, t = true ↔ p := by
  by_cases h : p
  · exact ⟨true, by simp [h]⟩
  · exact ⟨false, by simp [h]⟩
theorem goodO_plain {x : List D} (h : GoodO x) : x.all D.plain = true := by
  obtain ⟨e, st, ot, fl, vr, ca, rfl, h1, h2, h3⟩ := h
  simp only [List.all_cons, List.all_nil, isels_plain h1.el, isels_plain h2.el, isels_plain h3.el]; rfl
theorem good_nils (z : Nat) (p : List D → Prop) : Good z p .nils := ⟨.inl rfl, (fun x hx => by simp [els] at hx), Nat.zero_le _⟩
theorem goodO_len {x : List D} (h : GoodO x) : (cellsD x).length = 6 := by
  obtain ⟨e, st, ot, fl, vr, ca, rfl, _⟩ := h; rfl
theorem ldA6 {x : List D} (h : GoodO x) : ldA 6 x 0 = some (.agg (cellsD x)) := by
  obtain ⟨e, st, ot, fl, vr, ca, rfl, _⟩ := h
  rfl
theorem LRow.ldA6 {s : St} {b : Nat} {x : List D} (hx : GoodO x) (h : LRow s b (cellsD x)) : ldHA 6 s.h.get b 0 = some (.agg (cellsD x)) := by
  have := h.ldA; rwa [goodO_len hx] at this
theorem i64_small {i : Nat} {n : Nat} (h : i < n) (hn : n ≤ maxLen) : wrapK .i64 (Int.ofNat i + 1) = Int.ofNat (i + 1) := nat_succ (by have : maxLen = 9223372036854775807 := rfl; omega)
theorem lt_true {i n : Nat} (h : i < n) : (Int.ofNat i < Int.ofNat n) = True := by simpa using Int.ofNat_lt.2 h
theorem lt_false {i n : Nat} (h : ¬ i < n) : (Int.ofNat i < Int.ofNat n) = False := by simpa using fun g => h (Int.ofNat_lt.1 g)
theorem putL_all {l r : List C} (h : r.length = l.length) : putL l 0 r = r := by unfold putL; simp [h]
theorem row_written (s : St) (zs r : List C) (h : r.length = zs.length) : ∃ s', writeL (s.new (.row (mkRow zs))) s.nx 0 r = some s' ∧ LRow s' s.nx r ∧ s'.nx = s.nx + 1 ∧ ∀ x, x < s.nx → s'.h.get x = s.h.get x := by
  obtain ⟨s', h1, h2, h3, h4⟩ := (LRow.new s zs).write (o := 0) (r := r) (by omega)
  rw [putL_all h] at h2
  exact ⟨s', h1, h2, by rw [h3, St.new_nx], fun x hx => by rw [h4 x (by omega), new_old s _ hx]⟩
end Rl
