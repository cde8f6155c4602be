import Derived.Test.YtjmnhilkgjfllaaGreatDoorEvZh
import Derived.LaidOnce
set_option linter.unusedVariables false
set_option linter.unusedSimpArgs false
namespace Ev
open Go

/-! ### a world in which package variables hold given data: for the witness alone -/
def layEach (f : DataW Unit → List Obj → Option (List Value × List Obj)) : List (DataW Unit) → List Obj → Option (List Value × List Obj)
  | [], acc => some ([], acc)
  | d :: ds, acc => match f d acc with
    | none => none
    | some (c, acc) => match layEach f ds acc with
      | none => none
      | some (r, acc) => some (c ++ r, acc)
def layFields (f : TypeId → DataW Unit → List Obj → Option (List Value × List Obj)) : List Field → List (DataW Unit) → List Obj → Option (List Value × List Obj)
  | [], _, acc => some ([], acc)
  | _ :: _, [], _ => none
  | x :: fs, d :: ds, acc => match f x.type d acc with
    | none => none
    | some (c, acc) => match layFields f fs ds acc with
      | none => none
      | some (r, acc) => some (c ++ r, acc)
def typeOf (P : Program) (name : String) : Nat → Nat → Option TypeId
  | 0, _ => none
  | f + 1, u => match P.typeName? 3 u with
    | some n => match n == name with
      | true => some u
      | false => typeOf P name f (u + 1)
    | none => typeOf P name f (u + 1)
def layD (P : Program) (N : Nat) : Nat → TypeId → DataW Unit → List Obj → Option (List Value × List Obj)
  | 0, _, _, _ => none
  | n + 1, t, d, acc => match d with
    | .lit (.int k m) => some ([.int k m], acc)
    | .lit (.bool b) => some ([.bool b], acc)
    | .lit (.string s) => some ([.string ⟨s.toArray⟩], acc)
    | .nil => match P.underlying t with
      | some (.slice _) => some ([.slice none 0 0], acc)
      | some (.pointer _) => some ([.pointer none], acc)
      | _ => none
    | .ptr d => match P.underlying t with
      | some (.pointer e) => match layD P N n e d acc with
        | some (c, acc) => some ([.pointer (some ⟨N + acc.length, 0, none⟩)], acc ++ [.cells c.toArray e (0, 0)])
        | none => none
      | _ => none
    | .slice ds [] => match P.underlying t with
      | some (.slice e) => match layEach (layD P N n e) ds acc with
        | some (c, acc) => some ([.slice (some ⟨N + acc.length, 0, none⟩) ds.length ds.length], acc ++ [.cells c.toArray e (0, 0)])
        | none => none
      | _ => none
    | .agg ds => match P.underlying t with
      | some (.array _ e) => layEach (layD P N n e) ds acc
      | some (.struct fs) => layFields (layD P N n) fs.toList ds acc
      | _ => none
    | .iface name d => match typeOf P name P.types.size 0 with
      | some u => match layD P N n u d acc with
        | some ([v], acc) => some ([.iface u v], acc)
        | _ => none
      | none => none
    | _ => none
def setCells : List Obj → Nat → List Value → List Obj
  | [], _, _ => []
  | o :: l, 0, cs => (match o with
    | .cells _ t fz => .cells cs.toArray t fz
    | o => o) :: l
  | o :: l, n + 1, cs => o :: setCells l n cs
def layVars (P : Program) (N : Nat) : List (String × DataW Unit) → List Obj → List Obj → List Obj
  | [], h, acc => h ++ acc
  | (n, d) :: l, h, acc => match P.globalNamed n with
    | none => h ++ acc
    | some g => match (P.globals[g]?).map (·.type) with
      | none => h ++ acc
      | some t => match layD P N 12 t d acc with
        | none => h ++ acc
        | some (c, acc) => layVars P N l (setCells h g c) acc
noncomputable def startWith (P : Program) (laid : List (String × DataW Unit)) (os : Os) : World :=
  { World.holding P os ⟨#[], #[], []⟩ with heap := (layVars P (World.holding P os ⟨#[], #[], []⟩).heap.toList.length laid (World.holding P os ⟨#[], #[], []⟩).heap.toList []).toArray }
/-- as 'laidMet_of_run', 'no place twice' by a set of bits -/
theorem laidMet_of_bits {P : Program} {w : World} {l : List (String × DataW Unit)} (fuel M : Nat)
    (h : ((DataW.laidRun P w fuel (l.map (·.1))).bind fun x => if nodupBits M x.2 0 && laidRowsB P w x.2 then some x.1 else none) = some l) : laidMet P l w := by
  cases hx : DataW.laidRun P w fuel (l.map (·.1)) with
  | none => rw [hx] at h; cases h
  | some x =>
    rw [hx] at h
    simp only [Option.bind_some] at h
    split at h
    · rename_i hb
      rw [Bool.and_eq_true] at hb
      cases h
      exact laidMet_of_run fuel (ps := x.2) (by rw [hx]) (decide_eq_true (nodupBits_sound hb.1).1) hb.2
    · cases h
end Ev
