import Derived.Test.YtbfdpfcofdgckaaGreatDoorBsA
import Derived.Test.YtbfdpfcofdgckaaGreatDoorBkA
import Derived.Test.YtbfdpfcofdgckaaGreatDoorEwJ
import Derived.Test.YtbfdpfcofdgckaaGreatDoorEwJ
import Derived.Test.YtbfdpfcofdgckaaGreatDoorEwJ
namespace Bs
open Go Go.Proofs Ev
set_option linter.unusedVariables false
set_option maxRecDepth 1000000
/-- what a run comes to, as data: its texts may be any -/
noncomputable def frzRun (r : VS) : Option PV := match r with
  | .ok v s => match frzV s.h.get v with
    | some (p, _) => some p
    | none => none
  | .no => none
theorem frzRun_some {r : VS} {pv : PV} (h : frzRun r = some pv) : ∃ v s bs, r = .ok v s ∧ frzV s.h.get v = some (pv, bs) := by
  unfold frzRun at h
  split at h
  · rename_i v s
    split at h
    · rename_i p bs e
      cases h
      exact ⟨v, s, bs, rfl, e⟩
    · cases h
  · cases h
theorem ext_frz {P : Program} {kps : List (Nat × Nat)} {exts : List (Nat × Ext)} (hany : P.follows .mixedOrders = true) (ht : typesOk P = true) (hk : kps.all (fun p => fnOk P p.1) = true) (hx : ∀ p ∈ exts, ExtOne P P.globals.size p.1 p.2) {f : Nat} (gs : List (Nat × List C))
    (hgs : gs.all (fun p => and (p.2.all plainC) (decide (p.1 < P.globals.size))) = true) (hf : (pairT exts .nil).get f = none) (F : List PW → Option PV) (lf n : Nat)
    (hr : ∀ ps pv, F ps = some pv → frzRun (runF (envOf P exts kps) lf (n + 1) f (ps.map PW.toW) (st0 gs P.globals.size)) = some pv) : ExtOne P P.globals.size f (.fn F gs) :=
  ext_fn hgs (pure_of_run hany ht hk hx hf gs F fun ps pv hF => by
    obtain ⟨v, s, bs, h1, h2⟩ := frzRun_some (hr ps pv hF)
    exact ⟨lf, n, v, s, bs, h1, h2⟩)
/-- texts, whatever they are -/
def tl (l : List Str) : List (List D) := l.map fun s => [D.str s]
def tu (k : Nat) (x : Nat → Str) : List (List D) := (List.range k).map fun i => [D.str (x i)]
theorem tl_tu (l : List Str) : tl l = tu l.length fun i => l.getD i ⟨0, 0⟩ := by
  unfold tl tu
  refine List.ext_getElem (by simp) fun i h1 h2 => ?_
  simp only [List.length_map] at h1
  simp only [List.getElem_map, List.getElem_range, List.getD_eq_getElem?_getD, List.getElem?_eq_getElem h1, Option.getD_some]
theorem tl_tail (s : Str) (l : List Str) : tu l.length (fun i => (s :: l).getD (i + 1) ⟨0, 0⟩) = tl l := by
  rw [tl_tu]
  simp only [List.getD_cons_succ]
theorem tl_inj : ∀ {l r : List Str}, tl l = tl r → l = r := by
  intro l
  induction l with
  | nil => intro r h; cases r with | nil => rfl | cons b r => simp [tl] at h
  | cons a l ih =>
    intro r h
    cases r with
    | nil => simp [tl] at h
    | cons b r =>
      have h : [D.str a] :: tl l = [D.str b] :: tl r := h
      simp only [List.cons.injEq, D.str.injEq, and_true] at h
      rw [h.1, ih h.2]
theorem tl_len (l : List Str) : (tl l).length = l.length := by unfold tl; simp
theorem tl_els (l : List Str) : IsEls 1 (.sl 1 (tl l)) := .inr ⟨_, rfl, fun x hx => by
  obtain ⟨l, _, rfl⟩ := List.mem_map.1 hx; rfl⟩
/-- a machine with arguments and a status -/
def stD (a : D) (n : Int) : List D := [.nils, a, .nils, .nils, .int .i64 n, .str ⟨0, 0⟩, .str ⟨0, 0⟩, .int .i64 0, .int .i64 0, .str ⟨0, 0⟩, .int .i64 0, .str ⟨0, 0⟩, .nils, .int .i64 0, .int .i64 0, .bool false, .bool false, .int .i64 0, .nils, .nils, .str ⟨0, 0⟩]
def resP (x : List D) : PV := .tup [.agg x, .c (.int .i64 0), .c (.int .i64 0)]
def sShift : Str := ⟨5, 495672977012⟩
def sSet : Str := ⟨3, 7562612⟩
def sDD : Str := ⟨2, 11565⟩
noncomputable abbrev run6 (x : List D) (argv : List (List D)) : Option PV := frzRun (runF (envOf Tryz.prog Bk.extsM kps) 20 (200 + 1) 6 [.agg (cellsD x), .c (.dat 1 argv)] (st0 Bk.gs Tryz.prog.globals.size))
theorem shift_runs (x : Nat → Str) : (List.range 30).map (fun k => run6 (stD (.sl 1 (tu (k + 1) x)) 0) [[.str sShift]]) = (List.range 30).map fun k => some (resP (stD (.sl 1 (tu k fun i => x (i + 1))) 0)) := by kernel_rfl
theorem set_runs (x : Nat → Str) : (List.range 31).map (fun k => run6 (stD .nils 0) ([.str sSet] :: [.str sDD] :: tu k x)) = (List.range 31).map fun k => some (resP (stD (.sl 1 (tu k x)) 0)) := by kernel_rfl
theorem end_runs : [(0 : Int), 1].map (fun n => run6 (stD (.sl 1 []) n) [[.str sShift]]) = [(0 : Int), 1].map fun n => some (resP (stD (.sl 1 []) 1)) := by kernel_rfl
theorem map_at {α β : Type} {f g : α → β} {l : List α} (h : l.map f = l.map g) {a : α} (ha : a ∈ l) : f a = g a := List.map_inj_left.1 h a ha
theorem shift_run {s : Str} {l : List Str} (h : l.length < 30) : run6 (stD (.sl 1 (tl (s :: l))) 0) [[.str sShift]] = some (resP (stD (.sl 1 (tl l)) 0)) := by
  have := map_at (shift_runs fun i => (s :: l).getD i ⟨0, 0⟩) (List.mem_range.2 h)
  rw [tl_tail, show tu (l.length + 1) (fun i => (s :: l).getD i ⟨0, 0⟩) = tl (s :: l) from (tl_tu _).symm] at this
  exact this
theorem set_run {l : List Str} (h : l.length ≤ 30) : run6 (stD .nils 0) ([.str sSet] :: [.str sDD] :: tl l) = some (resP (stD (.sl 1 (tl l)) 0)) := by
  have := map_at (set_runs fun i => l.getD i ⟨0, 0⟩) (List.mem_range.2 (by omega : l.length < 31))
  rw [show tu l.length (fun i => l.getD i ⟨0, 0⟩) = tl l from (tl_tu _).symm] at this
  exact this
theorem end_run {n : Int} (h : n = 0 ∨ n = 1) : run6 (stD (.sl 1 []) n) [[.str sShift]] = some (resP (stD (.sl 1 []) 1)) :=
  map_at end_runs (by simpa using h)
/-- set, then shift -/
inductive RRun : List PW → PV → Prop where
  | set (l : List Str) (h : l.length ≤ 30) : RRun [.agg (stD .nils 0), .c (.sl 1 ([.str sSet] :: [.str sDD] :: tl l))] (resP (stD (.sl 1 (tl l)) 0))
  | shift (s : Str) (l : List Str) (h : l.length < 30) : RRun [.agg (stD (.sl 1 (tl (s :: l))) 0), .c (.sl 1 [[.str sShift]])] (resP (stD (.sl 1 (tl l)) 0))
  | none (n : Int) (h : n = 0 ∨ n = 1) : RRun [.agg (stD (.sl 1 []) n), .c (.sl 1 [[.str sShift]])] (resP (stD (.sl 1 []) 1))
noncomputable def e6 : Nat × Ext := (6, .fn (ofG RRun) Bk.gs)
theorem c6 : ExtOne Tryz.prog Tryz.prog.globals.size e6.1 e6.2 := ext_frz Bk.any_ok Bk.types_ok Bk.fns_ok Bk.extsM_ok Bk.gs Bk.gs_ok (by kernel_rfl) _ 20 200 fun ps pv h => by
  cases ofG_some h with
  | set l h1 => exact set_run h1
  | shift s l h1 => exact shift_run h1
  | none n h1 => exact end_run h1
theorem ofG_set {l : List Str} (h : l.length ≤ 30) : ofG RRun [.agg (stD .nils 0), .c (.sl 1 ([.str sSet] :: [.str sDD] :: tl l))] = some (resP (stD (.sl 1 (tl l)) 0)) :=
  ofG_eq (.set l h) (by
    intro v' hv
    generalize hp : [PW.agg (stD .nils 0), .c (.sl 1 ([.str sSet] :: [.str sDD] :: tl l))] = ps at hv
    cases hv with
    | set l' h' =>
      simp only [List.cons.injEq, PW.c.injEq, D.sl.injEq, true_and, and_true] at hp
      rw [tl_inj hp]
    | shift s l' h' => simp [stD] at hp
    | none n h' => simp [stD] at hp)
theorem ofG_shift {s : Str} {l : List Str} (h : l.length < 30) : ofG RRun [.agg (stD (.sl 1 (tl (s :: l))) 0), .c (.sl 1 [[.str sShift]])] = some (resP (stD (.sl 1 (tl l)) 0)) :=
  ofG_eq (.shift s l h) (by
    intro v' hv
    generalize hp : [PW.agg (stD (.sl 1 (tl (s :: l))) 0), .c (.sl 1 [[.str sShift]])] = ps at hv
    cases hv with
    | set l' h' => simp [stD] at hp
    | shift s' l' h' =>
      simp only [stD, List.cons.injEq, PW.agg.injEq, D.sl.injEq, true_and, and_true] at hp
      have := tl_inj hp
      cases this; rfl
    | none n h' => simp [stD, tl] at hp)
theorem ofG_end {n : Int} (h : n = 0 ∨ n = 1) : ofG RRun [.agg (stD (.sl 1 []) n), .c (.sl 1 [[.str sShift]])] = some (resP (stD (.sl 1 []) 1)) :=
  ofG_eq (.none n h) (by
    intro v' hv
    generalize hp : [PW.agg (stD (.sl 1 []) n), .c (.sl 1 [[.str sShift]])] = ps at hv
    cases hv with
    | set l' h' => simp [stD] at hp
    | shift s l' h' => simp [stD, tl] at hp
    | none n h' => rfl)
end Bs
