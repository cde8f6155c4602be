/- 'lazaruslaw27.AuditSame' returns true whatever outcomes and calls it is given, and its arguments read behind the call as they did before. Conditions: none beyond the given statement's own. -/
import Derived.Test.YtofngijkhghnmaaRows
import Derived.Test.YtofngijkhghnmaaPASo
import Derived.Test.YtofngijkhghnmaaPASp
import Derived.WalkKit
import Derived.ProofKit
import Derived.OpenShut
import Derived.ShutString
import Derived.ChangeOld
import Derived.Below
import Derived.SizedLaws
namespace Go.Proofs.Ytofngijkhghnmaa.auditSame
open Go.ChangeShapes Go.WideShapes Go.ChangeAt Go.RowKit
open Go.Proofs.YtofngijkhghnmaaW.PrintWords Go.Proofs.Ytofngijkhghnmaa.PAS
set_option linter.unusedVariables false

theorem own : ownKnob Try.prog.godebug = none := by kernel_rfl
theorem laidOut : laidOutB Try.prog = true := by kernel_rfl

theorem fits {w : World} {A : Option Addr} {n : Nat} {l : List S35} (h : Kd.C k35 w A n l) : ∀ x ∈ l, Fit35 x := by
  intro x hx
  obtain ⟨j, hj⟩ := List.getElem?_of_mem hx
  have h0 : 0 < n := by
    have := (List.getElem?_eq_some_iff.1 hj).1
    have := h.1
    omega
  obtain ⟨ad, _, hc⟩ := h.2.2 h0
  obtain ⟨c, _, hK, _⟩ := hc j x hj
  obtain ⟨A1, c1, A2, c2, _, _, g1, _, g2⟩ := k35_open hK
  exact ⟨g1.2.1, g2.2.1⟩

/-- what can be read as an outcome -/
theorem open27 {H : Type} {enc : TypeId × Value → H} {W : World} {base : Nat} {v : Value} {d : DataW H} {p : List MemPlace} (hv : Value.okWide Try.prog W .any base 27 v)
    (h : DataW.Trod enc Try.prog W 0 (fun _ => true) true 27 v d p) : ∃ (x : S27) (A3 : Option Addr) (c3 : Nat) (A4 : Option Addr) (c4 : Nat) (A5 : Option Addr) (c5 : Nat),
      v = .agg #[.int .i64 x.f0, .int .i64 x.f1, .string x.f2, .slice A3 x.f3.length c3, .slice A4 x.f4.length c4, .slice A5 x.f5.length c5] ∧
      x.f3.length ≤ c3 ∧ Kd.C k59 W A3 x.f3.length x.f3 ∧ x.f4.length ≤ c4 ∧ Kd.C k55 W A4 x.f4.length x.f4 ∧ x.f5.length ≤ c5 ∧ Kd.C k35 W A5 x.f5.length x.f5 := by
  obtain ⟨cs, rfl, _⟩ := okWide_struct Try.underlying27 hv
  obtain ⟨fuel, hf⟩ := h
  obtain ⟨x, hx⟩ := opens27 _ _ _ _ _ _ _ _ hf
  obtain ⟨A3, c3, A4, c4, A5, c5, hcs, r⟩ := k27_open hx
  refine ⟨x, A3, c3, A4, c4, A5, c5, ?_, r⟩
  have : cs.toList = _ := hcs
  rw [← this]
/-- what can be read as a call -/
theorem open35 {H : Type} {enc : TypeId × Value → H} {W : World} {base : Nat} {v : Value} {d : DataW H} {p : List MemPlace} (hv : Value.okWide Try.prog W .any base 35 v)
    (h : DataW.Trod enc Try.prog W 0 (fun _ => true) true 35 v d p) : ∃ (x : S35) (A1 : Option Addr) (c1 : Nat) (A2 : Option Addr) (c2 : Nat),
      v = .agg #[.int .i64 x.f0, .slice A1 x.f1.length c1, .slice A2 x.f2.length c2, .string x.f3] ∧
      x.f1.length ≤ c1 ∧ Kd.C Kd.string W A1 x.f1.length x.f1 ∧ x.f2.length ≤ c2 ∧ Kd.C k55 W A2 x.f2.length x.f2 := by
  obtain ⟨cs, rfl, _⟩ := okWide_struct Try.underlying35 hv
  obtain ⟨fuel, hf⟩ := h
  obtain ⟨x, hx⟩ := opens35 _ _ _ _ _ _ _ _ hf
  obtain ⟨A1, c1, A2, c2, hcs, r⟩ := k35_open hx
  refine ⟨x, A1, c1, A2, c2, ?_, r⟩
  have : cs.toList = _ := hcs
  rw [← this]

set_option maxRecDepth 100000 in
theorem lifted (os : Os) (started : os.Started) (H : Type) (enc : TypeId × Value → H) :
    ReturnsInHanded {} Try.checked os 6 .any (Rows.auditSameSpec.pre6 enc Try.prog Try.f6 Rows.auditSameRow.domain false) (Rows.auditSameSpec.post enc Try.prog Try.f6 false true false false) := by
  refine returnsInHanded_of_change_sized (C := Try.checked) own started (by kernel_rfl) Try.func6
    (ChangeSpec.witness6 (enc := enc) (C := Try.checked) false ⟨#[], #[.agg #[.int .i64 0, .int .i64 0, .string ByteArray.empty, .slice none 0 0, .slice none 0 0, .slice none 0 0], .agg #[.int .i64 0, .int .i64 0, .string ByteArray.empty, .slice none 0 0, .slice none 0 0, .slice none 0 0], .agg #[.int .i64 0, .slice none 0 0, .slice none 0 0, .string ByteArray.empty], .agg #[.int .i64 0, .slice none 0 0, .slice none 0 0, .string ByteArray.empty]], []⟩ 8 (by kernel_rfl) (by kernel_rfl) (by kernel_rfl) (by kernel_rfl)) ?_
  intro W base args ds gs before hval0 hW hcnd hsz0 _
  have hval : ∀ (j : Nat) t v, Try.f6.params[j]? = some t → args[j]? = some v → Value.okWide Try.prog W .any base t v := hval0
  have hW' := hW
  obtain ⟨p, q, hA0, hV, rfl, hfz, hnd⟩ := hW
  have hA : DataW.TrodAll enc Try.prog W 0 (fun _ => true) true Try.f6.params.toList args.toList ds p := hA0
  rw [Try.params6] at hA hval
  obtain ⟨v0, vs0, d0, ds0, p0, q0, hargs, rfl, rfl, h0, r0⟩ := trodAll_cons hA
  obtain ⟨v1, vs1, d1, ds1, p1, q1, rfl, rfl, rfl, h1, r1⟩ := trodAll_cons r0
  obtain ⟨v2, vs2, d2, ds2, p2, q2, rfl, rfl, rfl, h2, r2⟩ := trodAll_cons r1
  obtain ⟨v3, vs3, d3, ds3, p3, q3, rfl, rfl, rfl, h3, r3⟩ := trodAll_cons r2
  obtain ⟨rfl, rfl, rfl⟩ := trodAll_nil r3
  obtain rfl : args = #[v0, v1, v2, v3] := by cases args; simp_all
  obtain ⟨rfl, rfl⟩ := trodVars_none hV
  have lt0 : ∀ x ∈ p0, x.block < W.heap.size := by obtain ⟨m, hm⟩ := h0; exact DataW.trod_lt m _ _ _ hm
  have lt1 : ∀ x ∈ p1, x.block < W.heap.size := by obtain ⟨m, hm⟩ := h1; exact DataW.trod_lt m _ _ _ hm
  have lt2 : ∀ x ∈ p2, x.block < W.heap.size := by obtain ⟨m, hm⟩ := h2; exact DataW.trod_lt m _ _ _ hm
  have lt3 : ∀ x ∈ p3, x.block < W.heap.size := by obtain ⟨m, hm⟩ := h3; exact DataW.trod_lt m _ _ _ hm
  obtain ⟨x0, A03, c03, A04, c04, A05, c05, rfl, l03, g03, l04, g04, l05, g05⟩ := open27 (hval 0 27 v0 rfl rfl) h0
  obtain ⟨x1, A13, c13, A14, c14, A15, c15, rfl, l13, g13, l14, g14, l15, g15⟩ := open27 (hval 1 27 v1 rfl rfl) h1
  obtain ⟨x2, A21, c21, A22, c22, rfl, l21, g21, l22, g22⟩ := open35 (hval 2 35 v2 rfl rfl) h2
  obtain ⟨x3, A31, c31, A32, c32, rfl, l31, g31, l32, g32⟩ := open35 (hval 3 35 v3 rfl rfl) h3
  clear hA0 hval0 hsz0
  refine (lazaruslaw27_AuditSame.calls (2 * MM + 6) x0.f0 x0.f1 x0.f2 A03 c03 x0.f3 A04 c04 x0.f4 A05 c05 x0.f5 x1.f0 x1.f1 x1.f2 A13 c13 x1.f3 A14 c14 x1.f4 A15 c15 x1.f5
    x2.f0 A21 c21 x2.f1 A22 c22 x2.f2 x2.f3 x3.f0 A31 c31 x3.f1 A32 c32 x3.f2 x3.f3 true W g03 l03 g04 l04 g05 l05 g13 l13 g14 l14 g15 l15 g21 l21 g22 l22 g31 l31 g32 l32
    (law_true _ _ _ _ _ _ _ _ _ _ _ _ _ _ _ _ _ _ _ _ _ g03.2.1 g04.2.1 g05.2.1 (fits g05) g21.2.1 g22.2.1 (Nat.lt_succ_self _))).mono fun e W' ⟨he, bel⟩ => ?_
  subst he
  exact ⟨_, rfl, _, _, _, [], _, [], hW', trodAll_mk1 (shut_bool Try.underlying4 _),
    (trodAll_cons_mk (Below.trod laidOut (by kernel_rfl) (of_decide_eq_true (by kernel_rfl)) h0 bel lt0) (trodAll_cons_mk (Below.trod laidOut (by kernel_rfl) (of_decide_eq_true (by kernel_rfl)) h1 bel lt1)
      (trodAll_cons_mk (Below.trod laidOut (by kernel_rfl) (of_decide_eq_true (by kernel_rfl)) h2 bel lt2) (trodAll_cons_mk (Below.trod laidOut (by kernel_rfl) (of_decide_eq_true (by kernel_rfl)) h3 bel lt3) trodAll_mk0)))), rfl, bel.frame _, fun h => by cases h⟩
theorem over : Rows.auditSameRow.holds Try.pinned (OpenSpec.ofChange Rows.auditSameSpec) :=
  OpenClaim.holds_of_wide 6 Try.f6 rfl rfl rfl rfl rfl rfl rfl ⟨rfl, rfl, rfl, rfl, rfl⟩ rfl rfl rfl rfl rfl (by kernel_rfl) Try.func6 (by kernel_rfl)
    (of_decide_eq_true (by kernel_rfl)) (by unfold Func.isWrapper; first | (rw [if_pos (by decide +kernel)]; kernel_rfl) | (rw [if_neg (by decide +kernel)]; exact ⟨rfl, rfl⟩))
    (fun os started H enc _ => lifted os started H enc)
theorem proved : Rows.AuditSameSaid := over
#print axioms proved
end Go.Proofs.Ytofngijkhghnmaa.auditSame
