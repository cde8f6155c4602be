import Derived.Test.YtbcpkhbojpglaaaGreatDoorSyW0
import Derived.Test.YtbcpkhbojpglaaaGreatDoorSyW1
import Derived.Test.YtbcpkhbojpglaaaGreatDoorSyW2
import Derived.Test.YtbcpkhbojpglaaaGreatDoorSyW3
import Derived.Test.YtbcpkhbojpglaaaGreatDoorSyW4
import Derived.Test.YtbcpkhbojpglaaaGreatDoorSyW5
import Derived.Test.YtbcpkhbojpglaaaGreatDoorEwJ
import Derived.Test.YtbcpkhbojpglaaaGreatDoorEwK
namespace Sy
open Go Go.Proofs Ev
set_option linter.unusedVariables false
theorem CAll (a : Int) : runC a = true := match a with
  | .ofNat 0 => C0
  | .ofNat 1 => C1
  | .ofNat 2 => C2
  | .ofNat 3 => C3
  | .ofNat 4 => C4
  | .ofNat 5 => C5
  | .ofNat 6 => C6
  | .ofNat 7 => C7
  | .ofNat 8 => C8
  | .ofNat 9 => C9
  | .ofNat 10 => C10
  | .ofNat 11 => C11
  | .ofNat 12 => C12
  | .ofNat 13 => C13
  | .ofNat 14 => C14
  | .ofNat 15 => C15
  | .ofNat 16 => C16
  | .ofNat 17 => C17
  | .ofNat 18 => C18
  | .ofNat 19 => C19
  | .ofNat 20 => C20
  | .ofNat 21 => C21
  | .ofNat (n + 22) => Cn n
  | .negSucc n => Cm n
theorem w_int {P : Program} {B : Nat} {t : TypeId} {k : IntKind} (hu : P.underlying t = some (.int k)) {ds : List D} (h : ShapeW P B t ds) : ∃ n, ds = [.int k n] ∧ k.min ≤ n ∧ n ≤ k.max := Ev.w_int hu h
def RLaw (ps : List PW) (v : PV) : Prop := ∃ n, ps = [.c (.int .i64 n)] ∧ v = .w (.c (.bool true))
theorem law_pure : PureOk Tryz.prog 3 gs (ofG RLaw) :=
  pure_of_run any_ok types_ok fns_ok extsL_ok (by kernel_rfl) gs _ fun ps pv hp => by
    obtain ⟨n, rfl, rfl⟩ := ofG_some hp
    obtain ⟨s, hs⟩ := isTrue_some (CAll n)
    exact ⟨20, 2000, _, s, [], hs, rfl⟩
theorem law_val {n : Int} : ofG RLaw [.c (.int .i64 n)] = some (.w (.c (.bool true))) := ofG_eq ⟨n, rfl, rfl⟩ (by rintro v' ⟨_, _, rfl⟩; rfl)
end Sy
