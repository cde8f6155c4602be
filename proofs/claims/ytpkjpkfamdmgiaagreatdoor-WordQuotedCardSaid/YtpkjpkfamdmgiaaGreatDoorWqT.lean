import Derived.Test.YtpkjpkfamdmgiaaGreatDoorWqR
namespace Ws
open Go Go.Proofs Ev Wq
set_option linter.unusedVariables false
set_option maxRecDepth 1000000
def RLaw (ps : List PW) (v : PV) : Prop := ∃ l : List UInt8, ps = [.c (.str (Str.ofL l))] ∧ v = .w (.c (.bool true))
noncomputable def e11 : Nat × Ext := (11, .const (.bool true) Wk.gs)
theorem quoted_pure : PureOk Tryz.prog 3 Wk.gs (ofG RLaw) :=
  law_pure (exts := [e5, e6, e7, e8, e9, e11, e12]) Wk.any_ok Wk.types_ok fns_ok (oks1 c5 (oks1 c6 (oks1 c7 (oks1 c8 (oks1 c9 (oks1 Wk.known_ok (oks1 c12 oks0))))))) (f := 3) rfl Wk.gs _ fun ps pv hp => by
    obtain ⟨l, rfl, rfl⟩ := hp
    exact law3 _ rfl rfl rfl rfl rfl rfl rfl rfl rfl rfl l _ (by kernel_rfl) (rows_below Wk.gs_ok) _ fun s' => ⟨[], rfl⟩
theorem quoted_val {l : List UInt8} : ofG RLaw [.c (.str (Str.ofL l))] = some (.w (.c (.bool true))) :=
  ofG_eq ⟨l, rfl, rfl⟩ (by rintro v' ⟨_, _, rfl⟩; rfl)
theorem w_str {P : Program} {B : Nat} {t : TypeId} (hu : P.underlying t = some .string) {ds : List D} (h : ShapeW P B t ds) : ∃ l, ds = [.str (Str.ofL l)] ∧ l.length ≤ B := Ev.w_str hu h
end Ws
