import Derived.Test.YtnjfcaphpemihaaGreatDoorEwD
import Derived.RangeFuncBox
import Derived.RangeFuncLeaves
import Derived.Shelf.Abstract
import Derived.WalkKit
import Derived.OwnWalkIn
import Derived.TacticsInMore
import Derived.LoopNIn
import Derived.LoopIn
import Derived.Test.YtnjfcaphpemihaaGreatDoorProg
namespace Pc
open Go Go.Proofs Go.RowKit Go.Shelf Ev
attribute [local go_sem] Oper.semAt_some
theorem wpListIn_loadS {F : Fence} {n : Nat} {P : Program} {ops : Array Oper} {Q : Exit → Act → World → Prop} {dst : Option Tmp} {t : TypeId} {x : Operand} {ty : TypeId} {pos : String} {af : Array Edge} {rest : List Oper} {a : Act} {w : World} {p : Addr} {v : Value}
    (hx : a.eval x = .pointer (some p)) (hl : (loadVar t p).run P w = .ok v w) (h : wpListIn F n P ops Q rest (a.put dst v) w) : wpListIn F n P ops Q (⟨dst, .load t x, ty, pos, af, none⟩ :: rest) a w := by
  unfold wpListIn
  rw [if_pos (by rfl)]
  refine ⟨fun f hf => (by cases hf), ?_⟩
  rw [Oper.semAt_plain F _ _ (by intro c hc; cases hc)]
  have hr : (execOp a.eval ⟨dst, .load t x, ty, pos, af, none⟩).run P w = .ok (.value v) w := by
    simp only [execOp, Instr.loadAt, Instr.sureAddr, hx, Sem.run_bind, Sem.run_pure, Result.andThen_ok, hl]
  rw [hr]
  exact h
set_option linter.unusedVariables false in
set_option maxRecDepth 100000 in
set_option maxHeartbeats 2000000 in
theorem back_ok : ItBack Tryz.prog 188 238 := by
  refine ⟨enters_of Tryz.func188 (by kernel_rfl) rfl, fun l qb qo N J Jx hN h0 h1 W hW => ?_⟩
  refine callsIn_of_wp Tryz.func188 rfl trivial ?_ rfl
  simp only [Tryz.ntmps188, List.size_toArray, List.length_cons, List.length_nil, Nat.reduceAdd, Nat.reduceSub, Array.replicate_succ, Array.replicate_zero, List.push_toArray, List.append_toArray, List.nil_append, List.cons_append]
  obtain ⟨a, cap, hc⟩ := h0 W hW
  have hcz : Tryz.prog.cellsOf 238 = 2 := by kernel_rfl
  gi_wp2
  gi_loopw [3] (fun i wr => ∃ k : Nat, k ≤ N ∧ i = .int .i64 ((k : Int) - 1) ∧ J k wr)
    (fun i _ => ((intOf i) + 1).toNat)
  case atStart => exact ⟨N, Nat.le_refl _, rfl, hW⟩
  case round =>
    obtain ⟨k, hk, rfl, hJ⟩ := hrel
    cases k with
    | zero =>
      gi_wp2
      go_end0
      exact ⟨⟨_, rfl⟩, .inl hJ⟩
    | succ i =>
      obtain ⟨b, off, len, cap', xv, hcell, hlt, hload, fn, tmps, assign, body, hy, hR⟩ := h1 i wr hJ
      rw [hcz] at hload
      gi_wp2_with (refine wpListIn_loadS (t := 238) rfl hload ?_)
      refine hR.mono ?_
      rintro e W3 (⟨rfl, hJ3⟩ | ⟨rfl, hJx3⟩)
      · gi_wp2
        go_roundw
        case rel => exact ⟨i, by omega, by simp, hJ3⟩
        case measure => simp [intOf]
      · gi_wp2
        refine bodyPost_ret (results_none rfl _ _ _) rfl ?_
        exact ⟨⟨_, rfl⟩, .inr hJx3⟩
end Pc
