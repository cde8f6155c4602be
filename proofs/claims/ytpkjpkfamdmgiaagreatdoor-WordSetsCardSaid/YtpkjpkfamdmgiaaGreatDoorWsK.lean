import Derived.Test.YtpkjpkfamdmgiaaGreatDoorWsJ
namespace Ws
open Go Go.Proofs Ev
set_option linter.unusedVariables false
set_option maxRecDepth 1000000
def RLaw (ps : List PW) (v : PV) : Prop := ∃ l : List UInt8, ps = [.c (.str (Str.ofL l))] ∧ v = .w (.c (.bool true))
def RLaw1 (ps : List PW) (v : PV) : Prop := ∃ l : List UInt8, ps = [.c (.str (Str.ofL l))] ∧ 1 ≤ l.length ∧ v = .w (.c (.bool true))
def RLaw0 (ps : List PW) (v : PV) : Prop := ps = [.c (.str (Str.ofL []))] ∧ v = .w (.c (.bool true))
noncomputable def e11 : Nat × Ext := (11, .const (.bool true) Wk.gs)
theorem pure1 : PureOk Tryz.prog 4 Wk.gs (ofG RLaw1) :=
  law_pure (exts := [e6, e7, e11, e13, e14, e15]) Wk.any_ok Wk.types_ok fns_ok (oks1 c6 (oks1 c7 (oks1 Wk.known_ok (oks1 c13 (oks1 c14 (oks1 c15 oks0)))))) (f := 4) rfl Wk.gs _ fun ps pv hp => by
    obtain ⟨l, rfl, hl, rfl⟩ := hp
    exact law4 _ rfl rfl rfl rfl rfl rfl rfl l hl _ (by kernel_rfl) (rows_below Wk.gs_ok) _ fun s' => ⟨[], rfl⟩
theorem run_nil : isTrue (runF (envOf Tryz.prog Wk.extsK kps) 20 (2000 + 1) 4 [.c (.str (Str.ofL []))] (st0 Wk.gs Tryz.prog.globals.size)) = true := by kernel_rfl
theorem pure0 : PureOk Tryz.prog 4 Wk.gs (ofG RLaw0) :=
  pure_of_run Wk.any_ok Wk.types_ok fns_ok Wk.extsK_ok (by kernel_rfl) Wk.gs _ fun ps pv hp => by
    obtain ⟨rfl, rfl⟩ := ofG_some hp
    obtain ⟨s, hs⟩ := isTrue_some run_nil
    exact ⟨20, 2000, _, s, [], hs, rfl⟩
theorem sets_pure : PureOk Tryz.prog 4 Wk.gs (ofG RLaw) := by
  intro ρ w vals ps pv h hg hF hps
  obtain ⟨l, rfl, rfl⟩ := ofG_some hF
  cases l with
  | nil => exact pure0 ρ w vals _ _ h hg (ofG_eq ⟨rfl, rfl⟩ (by rintro v' ⟨_, rfl⟩; rfl)) hps
  | cons a l => exact pure1 ρ w vals _ _ h hg (ofG_eq ⟨a :: l, rfl, by simp, rfl⟩ (by rintro v' ⟨_, _, _, rfl⟩; rfl)) hps
theorem sets_val {l : List UInt8} : ofG RLaw [.c (.str (Str.ofL l))] = some (.w (.c (.bool true))) :=
  ofG_eq ⟨l, rfl, rfl⟩ (by rintro v' ⟨_, _, rfl⟩; rfl)
theorem w_str {P : Program} {B : Nat} {t : TypeId} (hu : P.underlying t = some .string) {ds : List D} (h : ShapeW P B t ds) : ∃ l, ds = [.str (Str.ofL l)] ∧ l.length ≤ B := Ev.w_str hu h
end Ws
