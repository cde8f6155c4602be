/-
  The library's decoder of letters, by the shelf's contract.
-/
import Derived.Test.YtpkjpkfamdmgiaaGreatDoorWsA
import Derived.Test.YtpkjpkfamdmgiaaGreatDoorWqM
import Derived.Test.YtpkjpkfamdmgiaaGreatDoorEwK
import Derived.KernelRfl
import Derived.Shelf.Unicode.DecodeAny
namespace Ws
open Go Go.Proofs Ev Go.Lib Wq
set_option linter.unusedVariables false
set_option maxRecDepth 1000000
theorem any_okD : Tryz.prog.follows .mixedOrders = true := by kernel_rfl
def renD : Go.Shelf.Ren := ⟨fun _ => 59, fun n => bif n == 46 then 138 else bif n == 119 then 137 else bif n == 138 then 140 else bif n == 139 then 141 else n, fun n => bif n == 3 then 0 else bif n == 4 then 1 else n⟩
theorem dec_lays : Lays.n260 Tryz.prog renD where
  mixed := any_okD
  f260 := by kernel_rfl
  t0 := by kernel_rfl
  a0 := fun w => by kernel_rfl
  z0 := fun w => by kernel_rfl
  v0 := fun w => by kernel_rfl
  t3 := by kernel_rfl
  a3 := fun w => by kernel_rfl
  z3 := fun w => by kernel_rfl
  v3 := fun w => by kernel_rfl
  t4 := by kernel_rfl
  a4 := fun w => by kernel_rfl
  z4 := fun w => by kernel_rfl
  v4 := fun w => by kernel_rfl
  t5 := by kernel_rfl
  a5 := fun w => by kernel_rfl
  z5 := fun w => by kernel_rfl
  v5 := fun w => by kernel_rfl
  t9 := by kernel_rfl
  a9 := fun w => by kernel_rfl
  z9 := fun w => by kernel_rfl
  v9 := fun w => by kernel_rfl
  t21 := by kernel_rfl
  a21 := fun w => by kernel_rfl
  z21 := fun w => by kernel_rfl
  v21 := fun w => by kernel_rfl
  t46 := by kernel_rfl
  a46 := fun w => by kernel_rfl
  z46 := fun w => by kernel_rfl
  v46 := fun w => by kernel_rfl
  t119 := by kernel_rfl
  a119 := fun w => by kernel_rfl
  z119 := fun w => by kernel_rfl
  t138 := by kernel_rfl
  a138 := fun w => by kernel_rfl
  z138 := fun w => by kernel_rfl
  v138 := fun w => by kernel_rfl
  t139 := by kernel_rfl
  a139 := fun w => by kernel_rfl
  z139 := fun w => by kernel_rfl
  v139 := fun w => by kernel_rfl
  g3 := by kernel_rfl
  g4 := by kernel_rfl
def tab0 : List C := (List.range 256).map fun c => C.int .u8 (Int.ofNat (firstT c))
def tab1 : List C := (List.range 16).flatMap fun i => [C.int .u8 (Int.ofNat (accLo i)), C.int .u8 (Int.ofNat (accHi i))]
abbrev gsU : List (Nat × List C) := [(0, tab0), (1, tab1)]
theorem gsU_ok : gsU.all (fun p => and (p.2.all plainC) (decide (p.1 < Tryz.prog.globals.size))) = true := by kernel_rfl
theorem row_0 (ng : Nat) : (st0 gsU ng).h.get 0 = some (.row (row0 tab0)) := by kernel_rfl
theorem row_1 (ng : Nat) : (st0 gsU ng).h.get 1 = some (.row (row0 tab1)) := by kernel_rfl
theorem tab0_at {c : Nat} (h : c < 256) : tab0[c]? = some (.int .u8 (Int.ofNat (firstT c))) := by
  unfold tab0; rw [List.getElem?_map, List.getElem?_range h]; rfl
theorem tab1_lo : (List.range 16).map (fun i => tab1[2 * i]?) = (List.range 16).map fun i => some (C.int .u8 (Int.ofNat (accLo i))) := by kernel_rfl
theorem tab1_hi : (List.range 16).map (fun i => tab1[2 * i + 1]?) = (List.range 16).map fun i => some (C.int .u8 (Int.ofNat (accHi i))) := by kernel_rfl
theorem cell_of {ρ : Mp} {w : World} {look : Look} {nx ng g : Nat} (h : HRel ρ look nx w.heap) (hg : GOk ng ρ) (hlt : g < ng) {l : List C} (hr : look g = some (.row (row0 l))) {i : Nat} {k : IntKind} {n : Int} (hi : l[i]? = some (.int k n)) : w.cell? ⟨g, i, none⟩ = some (.int k n) := by
  obtain ⟨p, o, g1, g2, g3⟩ := h.blk g _ hr rfl
  obtain ⟨p', g4, g5, g6⟩ := hg g hlt
  rw [g1] at g4; cases g4
  obtain ⟨arr, e, fz, rfl, g7⟩ := g3
  have hil := (List.getElem?_eq_some_iff.1 hi).1
  obtain ⟨v, k1, k2⟩ := g7.cell i _ (show i < lenA l 0 by rw [lenA_zero]; exact hil) (by show (T.ofL l).get i = _; rw [T.get_ofL]; exact hi)
  cases k2
  rw [g5] at g2
  rw [g6, Nat.zero_add] at k1
  simp only [World.cell?, g2]
  simpa using k1
theorem tabs_of {ρ : Mp} {w : World} (h : HRel ρ (st0 gsU Tryz.prog.globals.size).h.get Tryz.prog.globals.size w.heap) (hg : GOk Tryz.prog.globals.size ρ) : Utf8Tabs 0 1 w := by
  have hn : 1 < Tryz.prog.globals.size := of_decide_eq_true (by kernel_rfl)
  exact ⟨fun c hc => cell_of h hg (by omega) (row_0 _) (tab0_at hc), fun i hi => ⟨cell_of h hg hn (row_1 _) (List.map_inj_left.1 tab1_lo i (List.mem_range.2 hi)), cell_of h hg hn (row_1 _) (List.map_inj_left.1 tab1_hi i (List.mem_range.2 hi))⟩⟩
theorem drel_str {m : Snap} {l : List UInt8} {v : Value} (h : DRel m (.str (Str.ofL l)) v) : ∃ bs : ByteArray, v = .string bs ∧ bs.data.toList = l := by
  generalize hz : Str.ofL l = z at h
  cases h with
  | str bs =>
    rw [Str.of_eq] at hz
    exact ⟨bs, rfl, (ofL_inj hz).symm⟩
def RDs (ps : List PW) (v : PV) : Prop := ∃ l : List UInt8, ps = [.c (.str (Str.ofL l))] ∧ l ≠ [] ∧ v = .tup [.c (.int .i32 (Int.ofNat (decL l).1)), .c (.int .i64 (Int.ofNat (decL l).2))]
theorem dec_pure : PureOk Tryz.prog 59 gsU (ofG RDs) := by
  intro ρ w vals ps pv hrel hg hF hps
  obtain ⟨l, rfl, hl, rfl⟩ := ofG_some hF
  obtain ⟨vs⟩ := vals
  cases hps with
  | cons h1 h2 =>
    cases h2
    obtain ⟨bs, rfl, rfl⟩ := drel_str h1
    have hsz : bs.size ≠ 0 := fun e => hl (List.length_eq_zero_iff.1 (show bs.data.toList.length = 0 from e))
    have hd : decodeGo bs = decL bs.data.toList := by
      unfold decodeGo
      rw [if_neg hsz, ← dec_eq bs 0 (by omega), Str.of_eq, dec_L (by show 0 < bs.size; omega), List.drop_zero]
    refine ⟨Go.Proofs.enters_of dec_lays.f260 (by kernel_rfl) rfl _ _, (Any.utf8_decodeRuneInStringSlow dec_lays bs w (tabs_of hrel hg)).mono ?_⟩
    rintro e w' ⟨rfl, hw⟩
    rw [hd]
    refine ⟨_, rfl, ρ.m, Snap.le_refl _, fun _ _ _ h => .inl h, ?_, ?_, ?_, ?_, ?_⟩
    · intro c i v hm
      obtain ⟨arr, e, fz, g1, g2⟩ := hrel.lies c i v hm
      have hc : c < w.heap.size := (Array.getElem?_eq_some_iff.1 g1).1
      exact ⟨arr, e, fz, by rw [hw.block c hc]; exact g1, g2⟩
    · exact ⟨_, rfl, .cons (.int _ _) (.cons (.int _ _) .nil)⟩
    · exact hw.block
    · exact hw.size
    · exact ⟨hw.1, hw.3, hw.2⟩
noncomputable def e59 : Nat × Ext := (59, .fn (ofG RDs) gsU)
theorem c59 : OkE Tryz.prog e59 := ext_fn gsU_ok dec_pure
end Ws
