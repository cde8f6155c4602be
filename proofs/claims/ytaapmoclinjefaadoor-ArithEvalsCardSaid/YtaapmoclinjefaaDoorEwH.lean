import Derived.Test.YtaapmoclinjefaaDoorEwF
import Derived.ProofKit
import Derived.LaidMore
import Derived.OpenShut
import Derived.LaidOnce
set_option linter.unusedVariables false
set_option linter.unusedSimpArgs false
namespace Ev
open Go Go.RowKit

def eachF (f : DataW Unit → Option (List C)) : List (DataW Unit) → Option (List C)
  | [] => some []
  | d :: ds => match f d with
    | none => none
    | some l => match eachF f ds with
      | none => none
      | some r => some (l ++ r)
def fieldsF (P : Program) (f : TypeId → DataW Unit → Option (List C)) : List Field → List (DataW Unit) → Nat → Option (List C)
  | [], [], _ => some []
  | x :: fs, d :: ds, off => match decide (x.offset = off) with
    | false => none
    | true => match f x.type d with
      | none => none
      | some l => match fieldsF P f fs ds (off + P.cellsOf x.type) with
        | none => none
        | some r => some (l ++ r)
  | _, _, _ => none
def flat (P : Program) : Nat → TypeId → DataW Unit → Option (List C)
  | 0, _, _ => none
  | n + 1, t, d => match P.underlying t with
    | some (.int k) => match d with
      | .lit (.int k' m) => match kEq k k' with
        | true => some [.int k m]
        | false => none
      | _ => none
    | some (.interface _) => match d with
      | .iface _ _ => some [.unk]
      | _ => none
    | some (.array k e) => match d with
      | .agg ds => match decide (P.cellsOf t = k * P.cellsOf e) with
        | true => eachF (flat P n e) ds
        | false => none
      | _ => none
    | some (.struct fs) => match d with
      | .agg ds => match decide (P.cellsOf t = (fs.toList.map fun f => P.cellsOf f.type).sum) with
        | true => fieldsF P (flat P n) fs.toList ds 0
        | false => none
      | _ => none
    | _ => none

noncomputable def withRow (w : World) (g : Nat) (cs : List Value) : World := { w with heap := w.heap.modify g (fun o => match o with
  | .cells _ t fz => .cells cs.toArray t fz
  | o => o) }
def valC : C → Value
  | .int k n => .int k n
  | _ => .nilIface
noncomputable def withVar (P : Program) (w : World) (n : String) (d : DataW Unit) : World := match P.globalNamed n with
  | none => w
  | some g => match (P.globals[g]?).map (·.type) with
    | none => w
    | some t => match flat P 8 t d with
      | none => w
      | some l => withRow w g (l.map valC)

abbrev no : Mp := ⟨fun _ => none, fun _ _ => none⟩

section
variable {P : Program} {w : World} {base : Nat} {sp : Nat → Bool} {held : Bool}
abbrev TR (P : Program) (w : World) (base : Nat) (sp : Nat → Bool) (held : Bool) := DataW.trod (H := Unit) (fun _ => ()) P w base sp held

theorem each_ok {cs : List Value} {c m : Nat} {e : TypeId} {f : DataW Unit → Option (List C)} (hf : ∀ (d : DataW Unit) (l : List C) (cs : List Value) (ps : List MemPlace), TR P w base sp held m e cs = some (d, ps) → f d = some l → All2 (CRel no) l cs) :
    ∀ (xs : List (DataW Unit × List MemPlace)) (off : Nat) (l : List C), (∀ i, i < xs.length → TR P w base sp held m e ((cs.drop (off + i * c)).take c) = xs[i]?) → eachF f (xs.map (·.1)) = some l →
      All2 (CRel no) l ((cs.drop off).take (xs.length * c)) := by
  intro xs
  induction xs with
  | nil => intro off l _ h; cases h; simp; exact .nil
  | cons x xs ih =>
    intro off l hx h
    simp only [List.map_cons, eachF] at h
    cases h1 : f x.1 with
    | none => rw [h1] at h; cases h
    | some l1 =>
      rw [h1] at h
      simp only [] at h
      cases h2 : eachF f (xs.map (·.1)) with
      | none => rw [h2] at h; cases h
      | some l2 =>
        rw [h2] at h
        cases h
        have a0 := hx 0 (by simp)
        rw [Nat.zero_mul, Nat.add_zero] at a0
        have q1 := hf x.1 l1 _ x.2 (by rw [a0]; rfl) h1
        have q2 := ih (off + c) l2 (fun i hi => by
          have := hx (i + 1) (by simp; omega)
          rw [show off + (i + 1) * c = off + c + i * c by rw [Nat.add_mul]; omega] at this
          simpa using this) h2
        rw [List.length_cons, Nat.add_mul, Nat.one_mul, Nat.add_comm, List.take_add, List.drop_drop]
        exact q1.append q2

theorem fields_ok {cs : List Value} {m : Nat} {f : TypeId → DataW Unit → Option (List C)} (hf : ∀ (t : TypeId) (d : DataW Unit) (l : List C) (cs : List Value) (ps : List MemPlace), TR P w base sp held m t cs = some (d, ps) → f t d = some l → All2 (CRel no) l cs) :
    ∀ (fs : List Field) (xs : List (DataW Unit × List MemPlace)) (off : Nat) (l : List C), xs.length = fs.length → (∀ (i : Nat) (x : Field), fs[i]? = some x → TR P w base sp held m x.type ((cs.drop x.offset).take (P.cellsOf x.type)) = xs[i]?) →
      fieldsF P f fs (xs.map (·.1)) off = some l → All2 (CRel no) l ((cs.drop off).take ((fs.map fun f => P.cellsOf f.type).sum)) := by
  intro fs
  induction fs with
  | nil =>
    intro xs off l hl _ h
    cases xs with
    | nil => cases h; simp; exact .nil
    | cons x xs => simp at hl
  | cons y fs ih =>
    intro xs off l hl hx h
    cases xs with
    | nil => simp at hl
    | cons x xs =>
      simp only [List.map_cons, fieldsF] at h
      cases ho : decide (y.offset = off) with
      | false => rw [ho] at h; cases h
      | true =>
        rw [ho] at h
        have ho := of_decide_eq_true ho
        simp only [] at h
        cases h1 : f y.type x.1 with
        | none => rw [h1] at h; cases h
        | some l1 =>
          rw [h1] at h
          simp only [] at h
          cases h2 : fieldsF P f fs (xs.map (·.1)) (off + P.cellsOf y.type) with
          | none => rw [h2] at h; cases h
          | some l2 =>
            rw [h2] at h
            cases h
            have a0 := hx 0 y rfl
            rw [ho] at a0
            have q1 := hf y.type x.1 l1 _ x.2 (by rw [a0]; rfl) h1
            have q2 := ih xs (off + P.cellsOf y.type) l2 (by simpa using hl) (fun i z hz => by
              have := hx (i + 1) z (by simpa using hz)
              simpa using this) h2
            rw [List.map_cons, List.sum_cons, List.take_add, List.drop_drop]
            exact q1.append q2

theorem flat_ok : ∀ (n fuel : Nat) (t : TypeId) (d : DataW Unit) (l : List C) (cs : List Value) (ps : List MemPlace), TR P w base sp held fuel t cs = some (d, ps) → flat P n t d = some l → All2 (CRel no) l cs := by
  intro n
  induction n with
  | zero => intro fuel t d l cs ps _ h; cases h
  | succ n ih =>
    intro fuel t d l cs ps ht h
    simp only [flat] at h
    split at h
    · rename_i k hu
      split at h
      · rename_i k' m
        split at h
        · rename_i hk
          cases h
          obtain ⟨m', rfl, hx, _⟩ := DataW.trod_int hu ht
          simp only [Prod.mk.injEq, DataW.lit.injEq, Lit.int.injEq] at hx
          obtain ⟨⟨rfl, rfl⟩, _⟩ := hx
          exact .cons rfl .nil
        · cases h
      · cases h
    · rename_i ms hu
      split at h
      · rename_i nm d'
        cases h
        cases fuel with
        | zero => simp [DataW.trod] at ht
        | succ fuel =>
          unfold TR DataW.trod at ht
          rw [hu] at ht
          split at ht <;> first | (simp_all; done) | skip
          all_goals first
            | exact .cons ⟨rfl, rfl⟩ .nil
            | (simp_all; done)
      · cases h
    · rename_i k e hu
      split at h
      · rename_i ds
        split at h
        · rename_i hc
          have hc := of_decide_eq_true hc
          obtain ⟨xs, m, rfl, hx, hl, hn, hi⟩ := DataW.trod_array hu ht
          simp only [Prod.mk.injEq, DataW.agg.injEq] at hx
          obtain ⟨rfl, _⟩ := hx
          have := each_ok (cs := cs) (c := P.cellsOf e) (f := flat P n e) (fun d l cs ps h1 h2 => ih m e d l cs ps h1 h2) xs 0 l (fun i hi' => by rw [Nat.zero_add]; exact hi i (by omega)) h
          rw [List.drop_zero, hn, ← hc, ← hl, List.take_length] at this
          exact this
        · cases h
      · cases h
    · rename_i fs hu
      split at h
      · rename_i ds
        split at h
        · rename_i hc
          have hc := of_decide_eq_true hc
          obtain ⟨xs, m, rfl, hx, hl, hn, hi⟩ := DataW.trod_struct hu ht
          simp only [Prod.mk.injEq, DataW.agg.injEq] at hx
          obtain ⟨rfl, _⟩ := hx
          have := fields_ok (cs := cs) (f := flat P n) (fun t d l cs ps h1 h2 => ih m t d l cs ps h1 h2) fs.toList xs 0 l (by simpa using hn) (fun i x hx => hi i x (by simpa using hx)) h
          rw [List.drop_zero, ← hc, ← hl, List.take_length] at this
          exact this
        · cases h
      · cases h
    · cases h
end

def gsOf (P : Program) (laid : List (String × DataW Unit)) : List String → Option (List (Nat × List C))
  | [] => some []
  | n :: ns => match P.globalNamed n with
    | none => none
    | some g => match (P.globals[g]?).map (·.type) with
      | none => none
      | some t => match laid.find? (·.1 == n) with
        | none => none
        | some x => match flat P 8 t x.2 with
          | none => none
          | some l => match gsOf P laid ns with
            | none => none
            | some r => some ((g, l) :: r)

theorem laidVars_mem {P : Program} {w : World} : ∀ (laid : List (String × DataW Unit)) (ps : List MemPlace), DataW.LaidVars P w laid ps → ∀ n d, (n, d) ∈ laid →
    ∃ g t cs fuel p, P.globalNamed n = some g ∧ (P.globals[g]?).map (·.type) = some t ∧ w.var? P n = some cs ∧ DataW.trod (fun _ => ()) P w 0 (fun _ => true) false fuel t cs.toList = some (d, p) := by
  intro laid
  induction laid with
  | nil => intro ps _ n d h; simp at h
  | cons x laid ih =>
    intro ps h n d hm
    obtain ⟨n', d'⟩ := x
    obtain ⟨g, t, cs, fuel, p, q, h1, h2, h3, h4, h5, _⟩ := h
    rcases List.mem_cons.1 hm with e | hm
    · cases e; exact ⟨g, t, cs, fuel, p, h1, h2, h3, h4⟩
    · exact ih q h5 n d hm

theorem holds_of_laid {P : Program} {w : World} {laid : List (String × DataW Unit)} (h : laidMet P laid w) : ∀ (ns : List String) (gs : List (Nat × List C)), gsOf P laid ns = some gs → HoldsRows gs w.heap := by
  obtain ⟨ps, hl, _, _⟩ := h
  intro ns
  induction ns with
  | nil => intro gs h g l hm; cases h; simp at hm
  | cons n ns ih =>
    intro gs h
    simp only [gsOf] at h
    cases hg : P.globalNamed n with
    | none => rw [hg] at h; cases h
    | some g =>
      rw [hg] at h
      simp only [] at h
      cases ht : (P.globals[g]?).map (·.type) with
      | none => rw [ht] at h; cases h
      | some t =>
        rw [ht] at h
        simp only [] at h
        cases hx : laid.find? (·.1 == n) with
        | none => rw [hx] at h; cases h
        | some x =>
          rw [hx] at h
          simp only [] at h
          cases hf : flat P 8 t x.2 with
          | none => rw [hf] at h; cases h
          | some l =>
            rw [hf] at h
            simp only [] at h
            cases hr : gsOf P laid ns with
            | none => rw [hr] at h; cases h
            | some r =>
              rw [hr] at h
              cases h
              intro g' l' hm
              rcases List.mem_cons.1 hm with e | hm
              · cases e
                have hn : x.1 = n := by have := List.find?_some hx; simpa using this
                have hmem := List.mem_of_find?_eq_some hx
                obtain ⟨n0, d0⟩ := x
                subst hn
                obtain ⟨g2, t2, cs, fuel, p, k1, k2, k3, k4⟩ := laidVars_mem laid ps hl n0 d0 hmem
                rw [hg] at k1; cases k1
                rw [ht] at k2; cases k2
                have hcs := flat_ok 8 fuel t d0 l cs.toList p k4 hf
                unfold World.var? at k3
                rw [hg] at k3
                simp only [Option.bind_some] at k3
                split at k3
                · rename_i cs' e fz hh
                  cases k3
                  exact ⟨_, e, fz, hh, hcs⟩
                · cases k3
              · exact ih r hr g' l' hm
def allTo (f : Nat → Bool) : Nat → Bool
  | 0 => true
  | n + 1 => match f n with
    | true => allTo f n
    | false => false
theorem allTo_all {f : Nat → Bool} {n : Nat} (h : allTo f n = true) (h' : ∀ k, f (k + n) = true) (i : Nat) : f i = true := by
  have low : ∀ n, allTo f n = true → ∀ i, i < n → f i = true := by
    intro n
    induction n with
    | zero => intro _ i hi; omega
    | succ n ih =>
      intro h i hi
      simp only [allTo] at h
      cases hb : f n with
      | false => rw [hb] at h; cases h
      | true =>
        rw [hb] at h
        by_cases e : i = n
        · rw [e]; exact hb
        · exact ih h i (by omega)
  by_cases hi : i < n
  · exact low n h i hi
  · obtain ⟨k, rfl⟩ : ∃ k, i = k + n := ⟨i - n, by omega⟩
    exact h' k
end Ev

set_option linter.unusedVariables false
set_option linter.unusedSimpArgs false
namespace Ev
open Go

def layEach (f : DataW Unit → List Obj → Option (List Value × List Obj)) : List (DataW Unit) → List Obj → Option (List Value × List Obj)
  | [], acc => some ([], acc)
  | d :: ds, acc => match f d acc with
    | none => none
    | some (c, acc) => match layEach f ds acc with
      | none => none
      | some (r, acc) => some (c ++ r, acc)
def layFields (f : TypeId → DataW Unit → List Obj → Option (List Value × List Obj)) : List Field → List (DataW Unit) → List Obj → Option (List Value × List Obj)
  | [], _, acc => some ([], acc)
  | _ :: _, [], _ => none
  | x :: fs, d :: ds, acc => match f x.type d acc with
    | none => none
    | some (c, acc) => match layFields f fs ds acc with
      | none => none
      | some (r, acc) => some (c ++ r, acc)
def typeOf (P : Program) (name : String) : Nat → Nat → Option TypeId
  | 0, _ => none
  | f + 1, u => match P.typeName? 3 u with
    | some n => match n == name with
      | true => some u
      | false => typeOf P name f (u + 1)
    | none => typeOf P name f (u + 1)
def layD (P : Program) (N : Nat) : Nat → TypeId → DataW Unit → List Obj → Option (List Value × List Obj)
  | 0, _, _, _ => none
  | n + 1, t, d, acc => match d with
    | .lit (.int k m) => some ([.int k m], acc)
    | .lit (.bool b) => some ([.bool b], acc)
    | .lit (.string s) => some ([.string ⟨s.toArray⟩], acc)
    | .nil => match P.underlying t with
      | some (.slice _) => some ([.slice none 0 0], acc)
      | some (.pointer _) => some ([.pointer none], acc)
      | _ => none
    | .ptr d => match P.underlying t with
      | some (.pointer e) => match layD P N n e d acc with
        | some (c, acc) => some ([.pointer (some ⟨N + acc.length, 0, none⟩)], acc ++ [.cells c.toArray e (0, 0)])
        | none => none
      | _ => none
    | .slice ds [] => match P.underlying t with
      | some (.slice e) => match layEach (layD P N n e) ds acc with
        | some (c, acc) => some ([.slice (some ⟨N + acc.length, 0, none⟩) ds.length ds.length], acc ++ [.cells c.toArray e (0, 0)])
        | none => none
      | _ => none
    | .agg ds => match P.underlying t with
      | some (.array _ e) => layEach (layD P N n e) ds acc
      | some (.struct fs) => layFields (layD P N n) fs.toList ds acc
      | _ => none
    | .iface name d => match typeOf P name P.types.size 0 with
      | some u => match layD P N n u d acc with
        | some ([v], acc) => some ([.iface u v], acc)
        | _ => none
      | none => none
    | _ => none
def setCells : List Obj → Nat → List Value → List Obj
  | [], _, _ => []
  | o :: l, 0, cs => (match o with
    | .cells _ t fz => .cells cs.toArray t fz
    | o => o) :: l
  | o :: l, n + 1, cs => o :: setCells l n cs
def layVars (P : Program) (N : Nat) : List (String × DataW Unit) → List Obj → List Obj → List Obj
  | [], h, acc => h ++ acc
  | (n, d) :: l, h, acc => match P.globalNamed n with
    | none => h ++ acc
    | some g => match (P.globals[g]?).map (·.type) with
      | none => h ++ acc
      | some t => match layD P N 12 t d acc with
        | none => h ++ acc
        | some (c, acc) => layVars P N l (setCells h g c) acc
noncomputable def startWith (P : Program) (laid : List (String × DataW Unit)) (os : Os) : World :=
  { World.holding P os ⟨#[], #[], []⟩ with heap := (layVars P (World.holding P os ⟨#[], #[], []⟩).heap.toList.length laid (World.holding P os ⟨#[], #[], []⟩).heap.toList []).toArray }
theorem laidMet_of_bits {P : Program} {w : World} {l : List (String × DataW Unit)} (fuel M : Nat)
    (h : ((DataW.laidRun P w fuel (l.map (·.1))).bind fun x => if nodupBits M x.2 0 && laidRowsB P w x.2 then some x.1 else none) = some l) : laidMet P l w := by
  cases hx : DataW.laidRun P w fuel (l.map (·.1)) with
  | none => rw [hx] at h; cases h
  | some x =>
    rw [hx] at h
    simp only [Option.bind_some] at h
    split at h
    · rename_i hb
      rw [Bool.and_eq_true] at hb
      cases h
      exact laidMet_of_run fuel (ps := x.2) (by rw [hx]) (decide_eq_true (nodupBits_sound hb.1).1) hb.2
    · cases h
end Ev
