import Derived.Test.YtaapmoclinjefaaDoorArV
namespace Ar
open Go Go.Proofs Ev
set_option linter.unusedVariables false
set_option maxRecDepth 1000000
def RLaw (ps : List PW) (v : PV) : Prop := ∃ a b : Int, ps = [.c (.int .i64 a), .c (.int .i64 b)] ∧ v = .w (.c (.bool true))
noncomputable def e8k : Nat × Ext := (8, .const (.bool true) Ak.gs)
theorem c8k : Ok e8k := Ak.known_ok
theorem sums_pure : PureOk Tryd.prog 4 Ak.gs (ofG RLaw) :=
  law_pure (exts := [e6, e9i, e8k]) Ak.any_ok types_ok fns_ok (oks1 c6 (oks1 c9i (oks1 c8k oks0))) (f := 4) rfl Ak.gs _ fun ps pv hp => by
    obtain ⟨a, b, rfl, rfl⟩ := hp
    exact sums4 _ rfl rfl rfl rfl a b _ (by kernel_rfl) (by kernel_rfl) (by decide) (Ev.rows_below Ak.gs_ok) _ fun s' => ⟨[], rfl⟩
theorem sums_val {a b : Int} : ofG RLaw [.c (.int .i64 a), .c (.int .i64 b)] = some (.w (.c (.bool true))) :=
  ofG_eq ⟨a, b, rfl, rfl⟩ (by rintro v' ⟨_, _, _, rfl⟩; rfl)
theorem w_int {P : Program} {B : Nat} {t : TypeId} {k : IntKind} (hu : P.underlying t = some (.int k)) {ds : List D} (h : ShapeW P B t ds) : ∃ n, ds = [.int k n] ∧ k.min ≤ n ∧ n ≤ k.max := Ev.w_int hu h
end Ar
