/-
  ArithNums: the library's ParseInt at base ten, 64 bits, by the shelf's contract.
-/
import Derived.Test.YtaapmoclinjefaaDoorEwG
import Derived.Test.YtaapmoclinjefaaDoorProg
import Derived.KernelRfl
import Derived.Shelf.Strconv.ParseInt10All
import Derived.ProofKit
import Derived.Lib.AtoiErrMem
namespace Ar
open Go Go.Proofs Ev Go.Lib
set_option linter.unusedVariables false
set_option maxRecDepth 1000000
theorem any_ok : Tryd.prog.follows .mixedOrders = true := by kernel_rfl
def renP : Go.Shelf.Ren := ⟨fun n => bif n == 247 then 43 else bif n == 287 then 53 else bif n == 321 then 74 else bif n == 322 then 75 else n, fun n => bif n == 0 then 0 else bif n == 2 then 2 else bif n == 3 then 3 else bif n == 4 then 4 else bif n == 5 then 5 else bif n == 9 then 9 else bif n == 21 then 21 else bif n == 37 then 65 else bif n == 46 then 88 else bif n == 53 then 48 else bif n == 75 then 62 else bif n == 80 then 131 else bif n == 167 then 85 else bif n == 175 then 86 else n, fun n => n⟩
theorem pi_lays : LaysC.n247 Tryd.prog renP where
  mixed := any_ok
  f247 := by kernel_rfl
  f287 := by kernel_rfl
  f321 := by kernel_rfl
  f322 := by kernel_rfl
  t0 := by kernel_rfl
  a0 := fun w => by kernel_rfl
  z0 := fun w => by kernel_rfl
  v0 := fun w => by kernel_rfl
  t2 := by kernel_rfl
  a2 := fun w => by kernel_rfl
  z2 := fun w => by kernel_rfl
  v2 := fun w => by kernel_rfl
  t3 := by kernel_rfl
  a3 := fun w => by kernel_rfl
  z3 := fun w => by kernel_rfl
  v3 := fun w => by kernel_rfl
  t4 := by kernel_rfl
  a4 := fun w => by kernel_rfl
  z4 := fun w => by kernel_rfl
  v4 := fun w => by kernel_rfl
  t5 := by kernel_rfl
  a5 := fun w => by kernel_rfl
  z5 := fun w => by kernel_rfl
  v5 := fun w => by kernel_rfl
  t9 := by kernel_rfl
  a9 := fun w => by kernel_rfl
  z9 := fun w => by kernel_rfl
  v9 := fun w => by kernel_rfl
  t21 := by kernel_rfl
  a21 := fun w => by kernel_rfl
  z21 := fun w => by kernel_rfl
  v21 := fun w => by kernel_rfl
  t37 := by kernel_rfl
  a37 := fun w => by kernel_rfl
  z37 := fun w => by kernel_rfl
  v37 := fun w => by kernel_rfl
  t46 := by kernel_rfl
  a46 := fun w => by kernel_rfl
  z46 := fun w => by kernel_rfl
  v46 := fun w => by kernel_rfl
  t53 := by kernel_rfl
  a53 := fun w => by kernel_rfl
  z53 := fun w => by kernel_rfl
  v53 := fun w => by kernel_rfl
  t75 := by kernel_rfl
  a75 := fun w => by kernel_rfl
  z75 := fun w => by kernel_rfl
  v75 := fun w => by kernel_rfl
  t167 := by kernel_rfl
  a167 := fun w => by kernel_rfl
  z167 := fun w => by kernel_rfl
  v167 := fun w => by kernel_rfl
  t175 := by kernel_rfl
  a175 := fun w => by kernel_rfl
  z175 := fun w => by kernel_rfl
  v175 := fun w => by kernel_rfl
  t80 := by kernel_rfl
  a80 := fun w => by kernel_rfl
  z80 := fun w => by kernel_rfl
  v80 := fun w => by kernel_rfl
  i0 := by kernel_rfl
  i2 := by kernel_rfl
  i3 := by kernel_rfl
  i4 := by kernel_rfl
  i5 := by kernel_rfl
  i9 := by kernel_rfl
  i21 := by kernel_rfl
  i37 := by kernel_rfl
  i46 := by kernel_rfl
  i53 := by kernel_rfl
  i75 := by kernel_rfl
  i80 := by kernel_rfl
  i167 := by kernel_rfl
  i175 := by kernel_rfl
  c0 := by kernel_rfl
  c2 := by kernel_rfl
  c3 := by kernel_rfl
  c4 := by kernel_rfl
  c5 := by kernel_rfl
  c9 := by kernel_rfl
  c21 := by kernel_rfl
  c37 := by kernel_rfl
  c46 := by kernel_rfl
  c53 := by kernel_rfl
  c75 := by kernel_rfl
  c80 := by kernel_rfl
  c167 := by kernel_rfl
  c175 := by kernel_rfl

def piV (l : List UInt8) : PV := match parseIntB 64 l with
  | .ok n => .tup [.c (.int .i64 n), .c .nili]
  | .syntax => .tup [.c (.int .i64 0), .c (.ifc 85 (.int .i64 2))]
  | .range => .tup [.c (.int .i64 (intSat 64 l)), .c (.ifc 85 (.int .i64 1))]
def RPi (ps : List PW) (v : PV) : Prop := ∃ l, ps = [.c (.str (Str.ofL l)), .c (.int .i64 10), .c (.int .i64 64)] ∧ l.length ≤ 140737488351232 ∧ v = piV l
theorem drel_str {m : Snap} {l : List UInt8} {v : Value} (h : DRel m (.str (Str.ofL l)) v) : ∃ bs : ByteArray, v = .string bs ∧ bs.data.toList = l := by
  generalize hz : Str.ofL l = z at h
  cases h with
  | str bs =>
    rw [Str.of_eq] at hz
    exact ⟨bs, rfl, (ofL_inj hz).symm⟩
theorem pi_pure : PureOk Tryd.prog 43 [] (ofG RPi) := by
  intro ρ w vals ps pv hrel hg hF hps
  obtain ⟨l, rfl, hl, rfl⟩ := ofG_some hF
  obtain ⟨vs⟩ := vals
  cases hps with
  | cons h1 h2 => cases h2 with
    | cons h2 h3 => cases h3 with
      | cons h3 h4 =>
        cases h4
        obtain ⟨bs, rfl, rfl⟩ := drel_str h1
        cases h2
        cases h3
        have hbs : bs.size = bs.data.toList.length := rfl
        refine ⟨Go.Proofs.enters_of pi_lays.f247 (by kernel_rfl) rfl _ _, (Any.internal_strconv_ParseInt_10_all64 pi_lays bs (by omega) w).mono ?_⟩
        rintro e w' ⟨rfl, hw⟩
        have hblk : ∀ c, c < w.heap.size → w'.heap[c]? = w.heap[c]? := by
          rcases hw with rfl | ⟨t, rfl⟩
          · intro c _; rfl
          · intro c hc
            exact bytesWorld_at_old w _ t c hc
        have hsz : w.heap.size ≤ w'.heap.size := by
          rcases hw with rfl | ⟨t, rfl⟩
          · exact Nat.le_refl _
          · rw [bytesWorld_size]; omega
        have hsame : Same w w' := by
          rcases hw with rfl | ⟨t, rfl⟩
          · exact Same.refl _
          · have hb := bytesWorld_below w (renP.t 5) t
            exact ⟨hb.1, hb.3, hb.2⟩
        refine ⟨_, rfl, ρ.m, Snap.le_refl _, fun _ _ _ h => .inl h, ?_, ?_, hblk, hsz, hsame⟩
        · intro c i v hm
          obtain ⟨arr, e, fz, g1, g2⟩ := hrel.lies c i v hm
          have hc : c < w.heap.size := (Array.getElem?_eq_some_iff.1 g1).1
          exact ⟨arr, e, fz, by rw [hblk c hc]; exact g1, g2⟩
        · unfold piV
          cases parseIntB 64 bs.data.toList with
          | ok n => exact ⟨_, rfl, .cons (.int _ _) (.cons .nili .nil)⟩
          | «syntax» => exact ⟨_, rfl, .cons (.int _ _) (.cons (.ifc _ _ _ (.int _ _)) .nil)⟩
          | range => exact ⟨_, rfl, .cons (.int _ _) (.cons (.ifc _ _ _ (.int _ _)) .nil)⟩
theorem pi_ok : ExtOne Tryd.prog Tryd.prog.globals.size 43 (.fn (ofG RPi) []) := ext_fn rfl pi_pure
end Ar
