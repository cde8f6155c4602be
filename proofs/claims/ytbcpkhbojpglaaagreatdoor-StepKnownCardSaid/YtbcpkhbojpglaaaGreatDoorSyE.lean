import Derived.Test.YtbcpkhbojpglaaaGreatDoorSyD0
import Derived.Test.YtbcpkhbojpglaaaGreatDoorSyD1
import Derived.Test.YtbcpkhbojpglaaaGreatDoorSyD2
import Derived.Test.YtbcpkhbojpglaaaGreatDoorSyD3
import Derived.Test.YtbcpkhbojpglaaaGreatDoorSyD4
namespace Sy
open Go Go.Proofs Ev
set_option linter.unusedVariables false
set_option linter.unusedSimpArgs false
set_option maxRecDepth 100000
/-! the chain of states -/
theorem frames_len : ∀ m, (framesD m).length = m
  | 0 => rfl
  | m + 1 => by simp [framesD]
/-- what comes behind k steps -/
def stAt : Nat → List D
  | 0 => st0D
  | 1 => st1D
  | 2 => st2D
  | k + 3 => if k % 2 = 0 then stF (k / 2) (nowF (k / 2)) else stF (k / 2 + 1) 2
theorem at_even (m : Nat) : stAt (2 * m + 3) = stF m (nowF m) := by
  show (if (2 * m) % 2 = 0 then stF ((2 * m) / 2) (nowF ((2 * m) / 2)) else stF ((2 * m) / 2 + 1) 2) = _
  rw [if_pos (by omega), show 2 * m / 2 = m by omega]
theorem at_odd (m : Nat) : stAt (2 * m + 4) = stF (m + 1) 2 := by
  show (if (2 * m + 1) % 2 = 0 then stF ((2 * m + 1) / 2) (nowF ((2 * m + 1) / 2)) else stF ((2 * m + 1) / 2 + 1) 2) = _
  rw [if_neg (by omega), show (2 * m + 1) / 2 = m by omega]
def nextD (k : Nat) : List D := if k = 403 then stEnd else stAt (k + 1)
theorem of_map {α β : Type} {f g : α → β} {l : List α} (h : l.map f = l.map g) {a : α} (ha : a ∈ l) : f a = g a := List.map_inj_left.1 h a ha
theorem callsAt {b m : Nat} (h : Calls_ b 10) (h1 : b ≤ m) (h2 : m < b + 10) : runStep extsT (stF m (nowF m)) = some (.w (.agg (stF (m + 1) 2))) :=
  of_map h (List.mem_range'_1.2 ⟨h1, h2⟩)
theorem bracesAt {b m : Nat} (h : Braces b 20) (h1 : b ≤ m) (h2 : m < b + 20) : runStep extsC (stF (m + 1) 2) = some (.w (.agg (stF (m + 1) 3))) :=
  of_map h (List.mem_range'_1.2 ⟨h1, h2⟩)
theorem calls_all (m : Nat) (h : m < 200) : runStep extsT (stF m (nowF m)) = some (.w (.agg (stF (m + 1) 2))) := by
  rcases Nat.lt_or_ge m 10 with q | q
  · exact callsAt calls0 (by omega) (by omega)
  rcases Nat.lt_or_ge m 20 with q | q
  · exact callsAt calls10 (by omega) (by omega)
  rcases Nat.lt_or_ge m 30 with q | q
  · exact callsAt calls20 (by omega) (by omega)
  rcases Nat.lt_or_ge m 40 with q | q
  · exact callsAt calls30 (by omega) (by omega)
  rcases Nat.lt_or_ge m 50 with q | q
  · exact callsAt calls40 (by omega) (by omega)
  rcases Nat.lt_or_ge m 60 with q | q
  · exact callsAt calls50 (by omega) (by omega)
  rcases Nat.lt_or_ge m 70 with q | q
  · exact callsAt calls60 (by omega) (by omega)
  rcases Nat.lt_or_ge m 80 with q | q
  · exact callsAt calls70 (by omega) (by omega)
  rcases Nat.lt_or_ge m 90 with q | q
  · exact callsAt calls80 (by omega) (by omega)
  rcases Nat.lt_or_ge m 100 with q | q
  · exact callsAt calls90 (by omega) (by omega)
  rcases Nat.lt_or_ge m 110 with q | q
  · exact callsAt calls100 (by omega) (by omega)
  rcases Nat.lt_or_ge m 120 with q | q
  · exact callsAt calls110 (by omega) (by omega)
  rcases Nat.lt_or_ge m 130 with q | q
  · exact callsAt calls120 (by omega) (by omega)
  rcases Nat.lt_or_ge m 140 with q | q
  · exact callsAt calls130 (by omega) (by omega)
  rcases Nat.lt_or_ge m 150 with q | q
  · exact callsAt calls140 (by omega) (by omega)
  rcases Nat.lt_or_ge m 160 with q | q
  · exact callsAt calls150 (by omega) (by omega)
  rcases Nat.lt_or_ge m 170 with q | q
  · exact callsAt calls160 (by omega) (by omega)
  rcases Nat.lt_or_ge m 180 with q | q
  · exact callsAt calls170 (by omega) (by omega)
  rcases Nat.lt_or_ge m 190 with q | q
  · exact callsAt calls180 (by omega) (by omega)
  exact callsAt calls190 (by omega) (by omega)
theorem braces_all (m : Nat) (h : m < 200) : runStep extsC (stF (m + 1) 2) = some (.w (.agg (stF (m + 1) 3))) := by
  rcases Nat.lt_or_ge m 20 with q | q
  · exact bracesAt braces0 (by omega) (by omega)
  rcases Nat.lt_or_ge m 40 with q | q
  · exact bracesAt braces20 (by omega) (by omega)
  rcases Nat.lt_or_ge m 60 with q | q
  · exact bracesAt braces40 (by omega) (by omega)
  rcases Nat.lt_or_ge m 80 with q | q
  · exact bracesAt braces60 (by omega) (by omega)
  rcases Nat.lt_or_ge m 100 with q | q
  · exact bracesAt braces80 (by omega) (by omega)
  rcases Nat.lt_or_ge m 120 with q | q
  · exact bracesAt braces100 (by omega) (by omega)
  rcases Nat.lt_or_ge m 140 with q | q
  · exact bracesAt braces120 (by omega) (by omega)
  rcases Nat.lt_or_ge m 160 with q | q
  · exact bracesAt braces140 (by omega) (by omega)
  rcases Nat.lt_or_ge m 180 with q | q
  · exact bracesAt braces160 (by omega) (by omega)
  exact bracesAt braces180 (by omega) (by omega)
theorem step_at {k : Nat} (h : k < 404) : ∃ ex, (ex = extsT ∨ ex = extsC) ∧ runStep ex (stAt k) = some (.w (.agg (nextD k))) := by
  have hm := fun {a b : List D} (h : (a, b) ∈ [(st0D, st1D), (st1D, st2D), (st2D, stF 0 4), (stF 200 3, stEnd)]) => h
  have h4 : runStep extsT st0D = some (.w (.agg st1D)) ∧ runStep extsT st1D = some (.w (.agg st2D)) ∧ runStep extsT st2D = some (.w (.agg (stF 0 4))) ∧ runStep extsT (stF 200 3) = some (.w (.agg stEnd)) := by
    have := ends4
    simp only [List.map_cons, List.map_nil, List.cons.injEq, and_true] at this
    exact this
  match k, h with
  | 0, _ => exact ⟨_, .inl rfl, h4.1⟩
  | 1, _ => exact ⟨_, .inl rfl, h4.2.1⟩
  | 2, _ => exact ⟨_, .inl rfl, h4.2.2.1⟩
  | k + 3, h =>
    by_cases hl : k = 400
    · subst hl; exact ⟨_, .inl rfl, h4.2.2.2⟩
    · have hn : nextD (k + 3) = stAt (k + 4) := by unfold nextD; rw [if_neg (by omega)]
      rw [hn]
      by_cases hk : k % 2 = 0
      · obtain ⟨m, rfl⟩ : ∃ m, k = 2 * m := ⟨k / 2, by omega⟩
        rw [at_even, at_odd]
        exact ⟨_, .inl rfl, calls_all m (by omega)⟩
      · obtain ⟨m, rfl⟩ : ∃ m, k = 2 * m + 1 := ⟨k / 2, by omega⟩
        rw [show 2 * m + 1 + 3 = 2 * m + 4 by omega, at_odd, show 2 * m + 1 + 4 = 2 * (m + 1) + 3 by omega, at_even]
        exact ⟨_, .inr rfl, braces_all m (by omega)⟩
/-- which one it is -/
def decD : List D → Nat
  | [_, _, _, _, _, _, _, _, _, _, _, _, .nils, _, _, _, _, _, _, _, _] => 0
  | [_, _, _, _, _, _, _, _, _, _, _, _, .sl _ l, .int _ n, _, _, _, _, _, _, _] => if n = 1 then 1 else if n = -1 then 2 else if n = 2 then 2 * l.length + 2 else 2 * l.length + 3
  | _ => 0
theorem dec_at : ∀ k, decD (stAt k) = k
  | 0 => rfl
  | 1 => rfl
  | 2 => rfl
  | k + 3 => by
    by_cases hk : k % 2 = 0
    · obtain ⟨m, rfl⟩ : ∃ m, k = 2 * m := ⟨k / 2, by omega⟩
      rw [at_even]
      show (if nowF m = 1 then 1 else if nowF m = -1 then 2 else if nowF m = 2 then 2 * (framesD m).length + 2 else 2 * (framesD m).length + 3) = _
      rw [frames_len]
      cases m <;> simp [nowF]
    · obtain ⟨m, rfl⟩ : ∃ m, k = 2 * m + 1 := ⟨k / 2, by omega⟩
      rw [show 2 * m + 1 + 3 = 2 * m + 4 by omega, at_odd]
      show (if (2 : Int) = 1 then 1 else if (2 : Int) = -1 then 2 else if (2 : Int) = 2 then 2 * (framesD (m + 1)).length + 2 else 2 * (framesD (m + 1)).length + 3) = _
      rw [frames_len, if_neg (by decide), if_neg (by decide), if_pos rfl]
      omega
def RStep (ps : List PW) (v : PV) : Prop := ∃ k, k < 404 ∧ ps = [.agg progD, .agg (stAt k)] ∧ v = .w (.agg (nextD k))
noncomputable def e9 : Nat × Ext := (9, .fn (ofG RStep) gs)
theorem c9 : OkE Tryz.prog e9 := by
  have key : ∀ ex, ex = extsT ∨ ex = extsC → OksE Tryz.prog ex ∧ (pairT ex .nil).get 9 = none := by
    rintro ex (rfl | rfl)
    · exact ⟨extsT_ok, by kernel_rfl⟩
    · exact ⟨extsC_ok, by kernel_rfl⟩
  refine ext_fn gs_ok ?_
  intro ρ w vals ps pv h hg hF hps
  obtain ⟨k, hk, rfl, rfl⟩ := ofG_some hF
  obtain ⟨ex, hex, hrun⟩ := step_at hk
  obtain ⟨k1, k2⟩ := key ex hex
  have hp : PureOk Tryz.prog 9 gs (fun q => open Classical in if q = [.agg progD, .agg (stAt k)] then some (.w (.agg (nextD k))) else none) :=
    pure_of_run any_ok types_ok fns_ok k1 k2 gs _ fun q qv hq => by
      by_cases hqq : q = [.agg progD, .agg (stAt k)]
      · rw [if_pos hqq] at hq
        cases hq
        subst hqq
        obtain ⟨v, s, bs, h1, h2⟩ := frzRun_some hrun
        exact ⟨20, 200, v, s, bs, h1, h2⟩
      · rw [if_neg hqq] at hq; cases hq
  exact hp ρ w vals _ _ h hg (if_pos rfl) hps
theorem ofG_step {k : Nat} (hk : k < 404) : ofG RStep [.agg progD, .agg (stAt k)] = some (.w (.agg (nextD k))) :=
  ofG_eq ⟨k, hk, rfl, rfl⟩ (by
    rintro v' ⟨k', _, h1, rfl⟩
    simp only [List.cons.injEq, PW.agg.injEq, and_true, true_and] at h1
    have := congrArg decD h1
    rw [dec_at, dec_at] at this
    rw [this])
/-- the state behind i steps, at most 404 -/
def upTo (i : Nat) : List D := if i = 404 then stEnd else stAt i
theorem up_next {i : Nat} (h : i < 404) : nextD i = upTo (i + 1) := by
  unfold nextD upTo
  by_cases h1 : i = 403
  · rw [if_pos h1, if_pos (by omega)]
  · rw [if_neg h1, if_neg (by omega)]
theorem up_at {i : Nat} (h : i < 404) : upTo i = stAt i := by unfold upTo; rw [if_neg (by omega)]
/-- a state's form -/
def Form (x : List D) (over : Bool) : Prop := x.length = 21 ∧ x.all D.plain = true ∧ x[15]? = some (.bool over) ∧ x[16]? = some (.bool false)
theorem stF_form (m : Nat) (now : Int) : Form (stF m now) false := by
  refine ⟨rfl, ?_, rfl, rfl⟩
  cases m <;> rfl
theorem at_form : ∀ k, Form (stAt k) false
  | 0 => ⟨rfl, rfl, rfl, rfl⟩
  | 1 => ⟨rfl, rfl, rfl, rfl⟩
  | 2 => ⟨rfl, rfl, rfl, rfl⟩
  | k + 3 => by
    show Form (if k % 2 = 0 then stF (k / 2) (nowF (k / 2)) else stF (k / 2 + 1) 2) false
    split <;> exact stF_form _ _
theorem up_form {i : Nat} (h : i ≤ 404) : Form (upTo i) (decide (i = 404)) := by
  by_cases h1 : i = 404
  · subst h1; exact ⟨rfl, rfl, rfl, rfl⟩
  · rw [up_at (by omega), show decide (i = 404) = false by simpa using h1]; exact at_form i
end Sy
