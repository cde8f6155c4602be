import Derived.Test.YtbfdpfcofdgckaaGreatDoorBrA
import Derived.Test.YtbfdpfcofdgckaaGreatDoorBkA
import Derived.Test.YtbfdpfcofdgckaaGreatDoorEwK
namespace Br
open Go Go.Proofs Ev
set_option linter.unusedVariables false
set_option maxRecDepth 1000000
def sRead : Str := ⟨4, 1919246692⟩
def sX : Str := ⟨1, 120⟩
def s1 : Str := ⟨1, 49⟩
/-- variables: none, or x -/
def vrD : Option Str → D
  | none => .nils
  | some v => .sl 2 [[.str sX, .str v]]
noncomputable abbrev run (f : Nat) (ps : List PW) : Option PV := frzRun (runF (envOf Tryz.prog Bk.extsM kps) 20 (200 + 1) f (ps.map PW.toW) (st0 Bk.gs Tryz.prog.globals.size))
noncomputable abbrev run0 (f : Nat) (ps : List PW) : Option PV := frzRun (runF (envOf Tryz.prog Bk.extsM kps) 20 (200 + 1) f (ps.map PW.toW) (st0 [] Tryz.prog.globals.size))
theorem set_none (w : Str) : run0 44 [.agg [.nils, .nils, .nils], .c (.str sX), .c (.str w)] = some (.w (.agg [.sl 2 [[.str sX, .str w]], .nils, .nils])) := by kernel_rfl
theorem set_some (v w : Str) : run0 44 [.agg [.sl 2 [[.str sX, .str v]], .nils, .nils], .c (.str sX), .c (.str w)] = some (.w (.agg [.sl 2 [[.str sX, .str w]], .nils, .nils])) := by kernel_rfl
theorem is_read : run 12 [.c (.str sRead)] = some (.w (.c (.bool true))) := by kernel_rfl
theorem name_x : run0 41 [.c (.str sX)] = some (.w (.c (.bool true))) := by kernel_rfl
theorem name_1 : run0 41 [.c (.str s1)] = some (.w (.c (.bool false))) := by kernel_rfl
theorem texts_nil : run0 23 [.c .nils, .c .nils] = some (.w (.c (.bool true))) := by kernel_rfl
/-! contracts that are reckoned -/
inductive RSet : List PW → PV → Prop where
  | mk (o : Option Str) (w : Str) : RSet [.agg [vrD o, .nils, .nils], .c (.str sX), .c (.str w)] (.w (.agg [vrD (some w), .nils, .nils]))
noncomputable def e44 : Nat × Ext := (44, .fn (ofG RSet) [])
theorem c44 : OkE Tryz.prog e44 := ext_frz Bk.any_ok Bk.types_ok Bk.fns_ok Bk.extsM_ok [] rfl (by kernel_rfl) _ 20 200 fun ps pv h => by
  cases ofG_some h with
  | mk o w => cases o with
    | none => exact set_none w
    | some v => exact set_some v w
theorem ofG_rset (o : Option Str) (w : Str) : ofG RSet [.agg [vrD o, .nils, .nils], .c (.str sX), .c (.str w)] = some (.w (.agg [vrD (some w), .nils, .nils])) :=
  ofG_eq (.mk o w) (by
    intro v' hv
    generalize hp : [PW.agg [vrD o, .nils, .nils], PW.c (.str sX), PW.c (.str w)] = ps at hv
    cases hv with
    | mk o' w' =>
      simp only [List.cons.injEq, PW.c.injEq, D.str.injEq, and_true, true_and] at hp
      rw [hp.2])
inductive RIs : List PW → PV → Prop where
  | read : RIs [.c (.str sRead)] (.w (.c (.bool true)))
noncomputable def e12 : Nat × Ext := (12, .fn (ofG RIs) Bk.gs)
theorem c12 : OkE Tryz.prog e12 := ext_frz Bk.any_ok Bk.types_ok Bk.fns_ok Bk.extsM_ok Bk.gs Bk.gs_ok (by kernel_rfl) _ 20 200 fun ps pv h => by
  cases ofG_some h with
  | read => exact is_read
theorem ofG_is : ofG RIs [.c (.str sRead)] = some (.w (.c (.bool true))) := ofG_eq .read (by intro v' hv; cases hv; rfl)
inductive RName : List PW → PV → Prop where
  | x : RName [.c (.str sX)] (.w (.c (.bool true)))
  | one : RName [.c (.str s1)] (.w (.c (.bool false)))
noncomputable def e41 : Nat × Ext := (41, .fn (ofG RName) [])
theorem c41 : OkE Tryz.prog e41 := ext_frz Bk.any_ok Bk.types_ok Bk.fns_ok Bk.extsM_ok [] rfl (by kernel_rfl) _ 20 200 fun ps pv h => by
  cases ofG_some h with
  | x => exact name_x
  | one => exact name_1
theorem ofG_name (t : Bool) : ofG RName [.c (.str (if t then sX else s1))] = some (.w (.c (.bool t))) := by
  cases t with
  | true => exact ofG_eq .x (by
      intro v' hv
      generalize hp : [PW.c (.str (if true = true then sX else s1))] = ps at hv
      cases hv with
      | x => rfl
      | one => simp [sX, s1] at hp)
  | false => exact ofG_eq .one (by
      intro v' hv
      generalize hp : [PW.c (.str (if false = true then sX else s1))] = ps at hv
      cases hv with
      | x => simp [sX, s1] at hp
      | one => rfl)
end Br
