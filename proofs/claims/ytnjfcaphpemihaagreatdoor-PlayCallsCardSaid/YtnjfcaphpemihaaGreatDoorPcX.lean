import Derived.Test.YtnjfcaphpemihaaGreatDoorEwD
import Derived.RangeFuncBox
import Derived.RangeFuncLeaves
import Derived.Shelf.Abstract
import Derived.WalkKit
import Derived.OwnWalkIn
import Derived.TacticsInMore
import Derived.LoopNIn
import Derived.LoopIn
import Derived.Test.YtnjfcaphpemihaaGreatDoorProg
namespace Pc
open Go Go.Proofs Go.RowKit Go.Shelf Ev
attribute [local go_sem] Oper.semAt_some
set_option linter.unusedVariables false in
set_option maxRecDepth 100000 in
set_option maxHeartbeats 2000000 in
theorem chunk_ok : ItChunk Tryz.prog 290 67 := by
  refine ⟨enters_of Tryz.func290 (by kernel_rfl) rfl, fun l qb qo qb' qo' N M J Jx hM hN h0 hdr h1 W hW => ?_⟩
  refine callsIn_of_wp Tryz.func290 rfl trivial ?_ rfl
  simp only [Tryz.ntmps290, List.size_toArray, List.length_cons, List.length_nil, Nat.reduceAdd, Nat.reduceSub, Array.replicate_succ, Array.replicate_zero, List.push_toArray, List.append_toArray, List.nil_append, List.cons_append]
  gi_wp2
  gi_loopw [4] (fun i wr => ∃ k j : Nat, i = .int .i64 (k : Int) ∧ J j wr ∧ (k = j ∨ (N ≤ k ∧ N ≤ j)) ∧ k ≤ M + N)
    (fun i _ => (M + N - (intOf i).toNat))
  case atStart => exact ⟨0, 0, rfl, hW, .inl rfl, by omega⟩
  case round =>
    obtain ⟨k, j, rfl, hJ, hc, hk⟩ := hrel
    obtain ⟨⟨a, cap, hcell⟩, hcM⟩ := h0 j wr hJ
    by_cases hkN : k < N
    · obtain rfl : k = j := by rcases hc with h | ⟨h, _⟩ <;> omega
      obtain ⟨b, off, cap', xv, hcell', hNc, hsl, fn, tmps, assign, body, hy, hR⟩ := h1 k wr.drew (hdr _ _ hJ) hkN
      have hlt : ((k : Int) < (N : Int)) := by omega
      have hcell2 : wr.drew.cell? ⟨qb, qo, none⟩ = some (.slice (some ⟨b, off, none⟩) N cap') := hcell'
      have hM2 : wr.drew.cell? ⟨qb', qo', none⟩ = some (.int .i64 (M : Int)) := hcM
      have hcell0 : wr.cell? ⟨qb, qo, none⟩ = some (.slice (some ⟨b, off, none⟩) N cap') := hcell'
      have k0 : (0 : Int) ≤ (k : Int) := by omega
      have k1 : (k : Int) ≤ (N : Int) := by omega
      have he : (if N - k < M then ((N - k : Nat) : Int) else (M : Int)) = ((min M (N - k) : Nat) : Int) := by split <;> omega
      have hle : k + min M (N - k) ≤ N := by omega
      have hwr : IntKind.i64.wrap ((k : Int) + ((min M (N - k) : Nat) : Int)) = ((k + min M (N - k) : Nat) : Int) := by
        rw [← Int.natCast_add]; go_bits; trivial
      have hu : Tryz.prog.underlying 67 = some (.slice (Tryz.prog.elem 67)) := by kernel_rfl
      have hsz : (Go.sizeOf (Tryz.prog.elem 67)).run Tryz.prog wr.drew = .ok 1 wr.drew := by
        have hi : (Tryz.prog.info? (Tryz.prog.elem 67)).map TypeInfo.size = some 1 := by kernel_rfl
        cases g1 : Tryz.prog.info? (Tryz.prog.elem 67) with
        | none => rw [g1] at hi; cases hi
        | some i =>
          rw [g1] at hi
          have g2 : i.size = 1 := Option.some.inj hi
          rw [← g2]; exact run_size g1
      have hx := run_slice_lhm (P := Tryz.prog) wr.drew 67 (some ⟨b, off, none⟩) N cap' hu .i64 .i64 .i64 (k : Int) ((k + min M (N - k) : Nat) : Int) ((k + min M (N - k) : Nat) : Int) k0 (by omega) (by omega) (by omega)
      have hsl' := (run_sliceAt_slice (P := Tryz.prog) wr.drew 67 _ _ _ _ hu).symm.trans hsl
      rw [hx, hsz] at hsl'
      have hxv : xv = .slice (some ⟨b, off + k, none⟩) (min M (N - k)) (min M (N - k)) := by
        have h : Result.ok (sliced (some ⟨b, off, none⟩) (k : Int).toNat ((k + min M (N - k) : Nat) : Int).toNat ((k + min M (N - k) : Nat) : Int).toNat 1) wr.drew = Result.ok xv wr.drew := hsl'
        have h2 := (Result.ok.inj h).1
        rw [← h2]
        simp only [sliced, Int.toNat_natCast]
        rw [if_neg (by omega), show k + min M (N - k) - k = min M (N - k) by omega]
        simp [Addr.add]
      subst hxv
      clear hx hsl hsl' hsz hu
      gi_wp2
      gi_region
      gi_wp2
      refine hR.mono ?_
      rintro e W3 (⟨rfl, hJ3⟩ | ⟨rfl, hJx3⟩)
      · obtain ⟨_, hcM3⟩ := h0 _ W3 hJ3
        have hw3 : IntKind.i64.wrap ((k : Int) + (M : Int)) = (k : Int) + (M : Int) := by go_bits; trivial
        gi_wp2
        go_roundw
        case rel => exact ⟨k + M, k + min M (N - k), by simp, hJ3, by omega, by omega⟩
        case measure => simp [intOf]; omega
      · gi_wp2
        refine bodyPost_ret (results_none rfl _ _ _) rfl ?_
        exact ⟨⟨_, rfl⟩, .inr hJx3⟩
    · have hlt : ¬ ((k : Int) < (N : Int)) := by omega
      gi_wp2
      go_end0
      exact ⟨⟨_, rfl⟩, .inl ⟨j, by rcases hc with h | ⟨_, h⟩ <;> omega, hJ⟩⟩
end Pc
