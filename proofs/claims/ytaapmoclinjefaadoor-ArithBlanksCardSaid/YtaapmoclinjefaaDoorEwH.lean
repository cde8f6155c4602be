import Derived.Test.YtaapmoclinjefaaDoorEwF
import Derived.ProofKit
import Derived.LaidMore
import Derived.OpenShut
import Derived.Lib.Join
import Derived.LaidOnce
set_option linter.unusedVariables false
set_option linter.unusedSimpArgs false
namespace Ev
open Go Go.RowKit

/-! ### what package variables are known to hold, as cells -/
def eachF (f : DataW Unit → Option (List C)) : List (DataW Unit) → Option (List C)
  | [] => some []
  | d :: ds => match f d with
    | none => none
    | some l => match eachF f ds with
      | none => none
      | some r => some (l ++ r)
def fieldsF (P : Program) (f : TypeId → DataW Unit → Option (List C)) : List Field → List (DataW Unit) → Nat → Option (List C)
  | [], [], _ => some []
  | x :: fs, d :: ds, off => match decide (x.offset = off) with
    | false => none
    | true => match f x.type d with
      | none => none
      | some l => match fieldsF P f fs ds (off + P.cellsOf x.type) with
        | none => none
        | some r => some (l ++ r)
  | _, _, _ => none
def flat (P : Program) : Nat → TypeId → DataW Unit → Option (List C)
  | 0, _, _ => none
  | n + 1, t, d => match P.underlying t with
    | some (.int k) => match d with
      | .lit (.int k' m) => match kEq k k' with
        | true => some [.int k m]
        | false => none
      | _ => none
    | some (.interface _) => match d with
      | .iface _ _ => some [.unk]
      | _ => none
    | some (.array k e) => match d with
      | .agg ds => match decide (P.cellsOf t = k * P.cellsOf e) with
        | true => eachF (flat P n e) ds
        | false => none
      | _ => none
    | some (.struct fs) => match d with
      | .agg ds => match decide (P.cellsOf t = (fs.toList.map fun f => P.cellsOf f.type).sum) with
        | true => fieldsF P (flat P n) fs.toList ds 0
        | false => none
      | _ => none
    | _ => none

/-- a world in which a package variable holds these cells -/
noncomputable def withRow (w : World) (g : Nat) (cs : List Value) : World := { w with heap := w.heap.modify g (fun o => match o with
  | .cells _ t fz => .cells cs.toArray t fz
  | o => o) }
def valC : C → Value
  | .int k n => .int k n
  | _ => .nilIface
/-- a world in which a package variable holds a datum of numbers -/
noncomputable def withVar (P : Program) (w : World) (n : String) (d : DataW Unit) : World := match P.globalNamed n with
  | none => w
  | some g => match (P.globals[g]?).map (·.type) with
    | none => w
    | some t => match flat P 8 t d with
      | none => w
      | some l => withRow w g (l.map valC)

abbrev no : Mp := ⟨fun _ => none, fun _ _ => none⟩

section
variable {P : Program} {w : World} {base : Nat} {sp : Nat → Bool} {held : Bool}
abbrev TR (P : Program) (w : World) (base : Nat) (sp : Nat → Bool) (held : Bool) := DataW.trod (H := Unit) (fun _ => ()) P w base sp held

theorem each_ok {cs : List Value} {c m : Nat} {e : TypeId} {f : DataW Unit → Option (List C)} (hf : ∀ (d : DataW Unit) (l : List C) (cs : List Value) (ps : List MemPlace), TR P w base sp held m e cs = some (d, ps) → f d = some l → All2 (CRel no) l cs) :
    ∀ (xs : List (DataW Unit × List MemPlace)) (off : Nat) (l : List C), (∀ i, i < xs.length → TR P w base sp held m e ((cs.drop (off + i * c)).take c) = xs[i]?) → eachF f (xs.map (·.1)) = some l →
      All2 (CRel no) l ((cs.drop off).take (xs.length * c)) := by
  intro xs
  induction xs with
  | nil => intro off l _ h; cases h; simp; exact .nil
  | cons x xs ih =>
    intro off l hx h
    simp only [List.map_cons, eachF] at h
    cases h1 : f x.1 with
    | none => rw [h1] at h; cases h
    | some l1 =>
      rw [h1] at h
      simp only [] at h
      cases h2 : eachF f (xs.map (·.1)) with
      | none => rw [h2] at h; cases h
      | some l2 =>
        rw [h2] at h
        cases h
        have a0 := hx 0 (by simp)
        rw [Nat.zero_mul, Nat.add_zero] at a0
        have q1 := hf x.1 l1 _ x.2 (by rw [a0]; rfl) h1
        have q2 := ih (off + c) l2 (fun i hi => by
          have := hx (i + 1) (by simp; omega)
          rw [show off + (i + 1) * c = off + c + i * c by rw [Nat.add_mul]; omega] at this
          simpa using this) h2
        rw [List.length_cons, Nat.add_mul, Nat.one_mul, Nat.add_comm, List.take_add, List.drop_drop]
        exact q1.append q2

theorem fields_ok {cs : List Value} {m : Nat} {f : TypeId → DataW Unit → Option (List C)} (hf : ∀ (t : TypeId) (d : DataW Unit) (l : List C) (cs : List Value) (ps : List MemPlace), TR P w base sp held m t cs = some (d, ps) → f t d = some l → All2 (CRel no) l cs) :
    ∀ (fs : List Field) (xs : List (DataW Unit × List MemPlace)) (off : Nat) (l : List C), xs.length = fs.length → (∀ (i : Nat) (x : Field), fs[i]? = some x → TR P w base sp held m x.type ((cs.drop x.offset).take (P.cellsOf x.type)) = xs[i]?) →
      fieldsF P f fs (xs.map (·.1)) off = some l → All2 (CRel no) l ((cs.drop off).take ((fs.map fun f => P.cellsOf f.type).sum)) := by
  intro fs
  induction fs with
  | nil =>
    intro xs off l hl _ h
    cases xs with
    | nil => cases h; simp; exact .nil
    | cons x xs => simp at hl
  | cons y fs ih =>
    intro xs off l hl hx h
    cases xs with
    | nil => simp at hl
    | cons x xs =>
      simp only [List.map_cons, fieldsF] at h
      cases ho : decide (y.offset = off) with
      | false => rw [ho] at h; cases h
      | true =>
        rw [ho] at h
        have ho := of_decide_eq_true ho
        simp only [] at h
        cases h1 : f y.type x.1 with
        | none => rw [h1] at h; cases h
        | some l1 =>
          rw [h1] at h
          simp only [] at h
          cases h2 : fieldsF P f fs (xs.map (·.1)) (off + P.cellsOf y.type) with
          | none => rw [h2] at h; cases h
          | some l2 =>
            rw [h2] at h
            cases h
            have a0 := hx 0 y rfl
            rw [ho] at a0
            have q1 := hf y.type x.1 l1 _ x.2 (by rw [a0]; rfl) h1
            have q2 := ih xs (off + P.cellsOf y.type) l2 (by simpa using hl) (fun i z hz => by
              have := hx (i + 1) z (by simpa using hz)
              simpa using this) h2
            rw [List.map_cons, List.sum_cons, List.take_add, List.drop_drop]
            exact q1.append q2

theorem flat_ok : ∀ (n fuel : Nat) (t : TypeId) (d : DataW Unit) (l : List C) (cs : List Value) (ps : List MemPlace), TR P w base sp held fuel t cs = some (d, ps) → flat P n t d = some l → All2 (CRel no) l cs := by
  intro n
  induction n with
  | zero => intro fuel t d l cs ps _ h; cases h
  | succ n ih =>
    intro fuel t d l cs ps ht h
    simp only [flat] at h
    split at h
    · rename_i k hu
      split at h
      · rename_i k' m
        split at h
        · rename_i hk
          cases h
          obtain ⟨m', rfl, hx, _⟩ := DataW.trod_int hu ht
          simp only [Prod.mk.injEq, DataW.lit.injEq, Lit.int.injEq] at hx
          obtain ⟨⟨rfl, rfl⟩, _⟩ := hx
          exact .cons rfl .nil
        · cases h
      · cases h
    · rename_i ms hu
      split at h
      · rename_i nm d'
        cases h
        cases fuel with
        | zero => simp [DataW.trod] at ht
        | succ fuel =>
          unfold TR DataW.trod at ht
          rw [hu] at ht
          split at ht <;> first | (simp_all; done) | skip
          all_goals first
            | exact .cons ⟨rfl, rfl⟩ .nil
            | (simp_all; done)
      · cases h
    · rename_i k e hu
      split at h
      · rename_i ds
        split at h
        · rename_i hc
          have hc := of_decide_eq_true hc
          obtain ⟨xs, m, rfl, hx, hl, hn, hi⟩ := DataW.trod_array hu ht
          simp only [Prod.mk.injEq, DataW.agg.injEq] at hx
          obtain ⟨rfl, _⟩ := hx
          have := each_ok (cs := cs) (c := P.cellsOf e) (f := flat P n e) (fun d l cs ps h1 h2 => ih m e d l cs ps h1 h2) xs 0 l (fun i hi' => by rw [Nat.zero_add]; exact hi i (by omega)) h
          rw [List.drop_zero, hn, ← hc, ← hl, List.take_length] at this
          exact this
        · cases h
      · cases h
    · rename_i fs hu
      split at h
      · rename_i ds
        split at h
        · rename_i hc
          have hc := of_decide_eq_true hc
          obtain ⟨xs, m, rfl, hx, hl, hn, hi⟩ := DataW.trod_struct hu ht
          simp only [Prod.mk.injEq, DataW.agg.injEq] at hx
          obtain ⟨rfl, _⟩ := hx
          have := fields_ok (cs := cs) (f := flat P n) (fun t d l cs ps h1 h2 => ih m t d l cs ps h1 h2) fs.toList xs 0 l (by simpa using hn) (fun i x hx => hi i x (by simpa using hx)) h
          rw [List.drop_zero, ← hc, ← hl, List.take_length] at this
          exact this
        · cases h
      · cases h
    · cases h
end

/-- the rows of the listed variables that are taken, by name -/
def gsOf (P : Program) (laid : List (String × DataW Unit)) : List String → Option (List (Nat × List C))
  | [] => some []
  | n :: ns => match P.globalNamed n with
    | none => none
    | some g => match (P.globals[g]?).map (·.type) with
      | none => none
      | some t => match laid.find? (·.1 == n) with
        | none => none
        | some x => match flat P 8 t x.2 with
          | none => none
          | some l => match gsOf P laid ns with
            | none => none
            | some r => some ((g, l) :: r)

theorem laidVars_mem {P : Program} {w : World} : ∀ (laid : List (String × DataW Unit)) (ps : List MemPlace), DataW.LaidVars P w laid ps → ∀ n d, (n, d) ∈ laid →
    ∃ g t cs fuel p, P.globalNamed n = some g ∧ (P.globals[g]?).map (·.type) = some t ∧ w.var? P n = some cs ∧ DataW.trod (fun _ => ()) P w 0 (fun _ => true) false fuel t cs.toList = some (d, p) := by
  intro laid
  induction laid with
  | nil => intro ps _ n d h; simp at h
  | cons x laid ih =>
    intro ps h n d hm
    obtain ⟨n', d'⟩ := x
    obtain ⟨g, t, cs, fuel, p, q, h1, h2, h3, h4, h5, _⟩ := h
    rcases List.mem_cons.1 hm with e | hm
    · cases e; exact ⟨g, t, cs, fuel, p, h1, h2, h3, h4⟩
    · exact ih q h5 n d hm

theorem holds_of_laid {P : Program} {w : World} {laid : List (String × DataW Unit)} (h : laidMet P laid w) : ∀ (ns : List String) (gs : List (Nat × List C)), gsOf P laid ns = some gs → HoldsRows gs w.heap := by
  obtain ⟨ps, hl, _, _⟩ := h
  intro ns
  induction ns with
  | nil => intro gs h g l hm; cases h; simp at hm
  | cons n ns ih =>
    intro gs h
    simp only [gsOf] at h
    cases hg : P.globalNamed n with
    | none => rw [hg] at h; cases h
    | some g =>
      rw [hg] at h
      simp only [] at h
      cases ht : (P.globals[g]?).map (·.type) with
      | none => rw [ht] at h; cases h
      | some t =>
        rw [ht] at h
        simp only [] at h
        cases hx : laid.find? (·.1 == n) with
        | none => rw [hx] at h; cases h
        | some x =>
          rw [hx] at h
          simp only [] at h
          cases hf : flat P 8 t x.2 with
          | none => rw [hf] at h; cases h
          | some l =>
            rw [hf] at h
            simp only [] at h
            cases hr : gsOf P laid ns with
            | none => rw [hr] at h; cases h
            | some r =>
              rw [hr] at h
              cases h
              intro g' l' hm
              rcases List.mem_cons.1 hm with e | hm
              · cases e
                have hn : x.1 = n := by have := List.find?_some hx; simpa using this
                have hmem := List.mem_of_find?_eq_some hx
                obtain ⟨n0, d0⟩ := x
                subst hn
                obtain ⟨g2, t2, cs, fuel, p, k1, k2, k3, k4⟩ := laidVars_mem laid ps hl n0 d0 hmem
                rw [hg] at k1; cases k1
                rw [ht] at k2; cases k2
                have hcs := flat_ok 8 fuel t d0 l cs.toList p k4 hf
                unfold World.var? at k3
                rw [hg] at k3
                simp only [Option.bind_some] at k3
                split at k3
                · rename_i cs' e fz hh
                  cases k3
                  exact ⟨_, e, fz, hh, hcs⟩
                · cases k3
              · exact ih r hr g' l' hm
/-! ### the first so many numbers, in one go -/
def allTo (f : Nat → Bool) : Nat → Bool
  | 0 => true
  | n + 1 => match f n with
    | true => allTo f n
    | false => false
theorem allTo_all {f : Nat → Bool} {n : Nat} (h : allTo f n = true) (h' : ∀ k, f (k + n) = true) (i : Nat) : f i = true := by
  have low : ∀ n, allTo f n = true → ∀ i, i < n → f i = true := by
    intro n
    induction n with
    | zero => intro _ i hi; omega
    | succ n ih =>
      intro h i hi
      simp only [allTo] at h
      cases hb : f n with
      | false => rw [hb] at h; cases h
      | true =>
        rw [hb] at h
        by_cases e : i = n
        · rw [e]; exact hb
        · exact ih h i (by omega)
  by_cases hi : i < n
  · exact low n h i hi
  · obtain ⟨k, rfl⟩ : ∃ k, i = k + n := ⟨i - n, by omega⟩
    exact h' k
end Ev

set_option linter.unusedVariables false
set_option linter.unusedSimpArgs false
namespace Ev
open Go

theorem joinL_ok {ρ : Mp} (sep : ByteArray) : ∀ (l : List C) (vs : List Value) (acc : List UInt8) (z : Str), LRel ρ l vs → joinL (Str.of sep) l (Str.ofL acc) = some z →
    ∃ xs : List ByteArray, vs = xs.map Value.string ∧ z = Str.ofL (acc ++ Lib.joinTail sep.data.toList (xs.map (·.data.toList))) := by
  intro l
  induction l with
  | nil =>
    intro vs acc z hl h
    cases hl
    simp only [joinL, Option.some.injEq] at h
    exact ⟨[], rfl, by rw [← h]; simp [Lib.joinTail]⟩
  | cons c l ih =>
    intro vs acc z hl h
    cases hl with
    | cons h1 h2 =>
      cases c <;> simp only [joinL, reduceCtorEq] at h
      obtain ⟨bs, rfl, rfl⟩ := h1
      rw [Str.of_eq, Str.of_eq, Str.app_ofL, Str.app_ofL] at h
      rw [← Str.of_eq] at h
      obtain ⟨xs, rfl, rfl⟩ := ih _ _ _ h2 h
      exact ⟨bs :: xs, rfl, by simp [Lib.joinTail]⟩

theorem joinC_ok {ρ : Mp} (sep : ByteArray) (l : List C) (vs : List Value) (z : Str) (hl : LRel ρ l vs) (h : joinC (Str.of sep) l = some z) :
    ∃ xs : List ByteArray, vs = xs.map Value.string ∧ z = Str.ofL (Lib.join (xs.map (·.data.toList)) sep.data.toList) := by
  cases hl with
  | nil =>
    simp only [joinC, Option.some.injEq] at h
    exact ⟨[], rfl, by rw [← h]; rfl⟩
  | cons h1 h2 =>
    rename_i c v l vs
    cases c <;> simp only [joinC, reduceCtorEq] at h
    obtain ⟨bs, rfl, rfl⟩ := h1
    rw [Str.of_eq bs] at h
    obtain ⟨xs, rfl, rfl⟩ := joinL_ok sep l vs _ z h2 h
    exact ⟨bs :: xs, rfl, by rw [List.map_cons, Lib.join_cons]⟩

theorem ext_join {P : Program} {ng f : Nat} (hin : ∀ args w, (callFunc f args).run P w = .ok (.enter f args) w)
    (hnone : ∀ (a : Option Addr) (c : Nat) (sep : ByteArray) (w : World), Calls P f #[.slice a 0 c, .string sep] w fun e w' => e = .returned (.string ⟨#[]⟩) ∧ w' = w)
    (hmany : ∀ (bk o c : Nat) (xs : List ByteArray) (sep : ByteArray) (w : World), (∀ (j : Nat) x, xs[j]? = some x → w.cell? ⟨bk, o + j, none⟩ = some (.string x)) → bk < w.heap.size → xs.length ≤ 140737488355328 → xs.length ≤ c →
      (Lib.join (xs.map (·.data.toList)) sep.data.toList).length ≤ 140737488355328 →
      Calls P f #[.slice (some ⟨bk, o, none⟩) xs.length c, .string sep] w fun e w' => e = .returned (.string ⟨(Lib.join (xs.map (·.data.toList)) sep.data.toList).toArray⟩) ∧ RowKit.Below w.heap.size w w') :
    ExtOne P ng f .join := by
  intro args s v s' ρ w vals h hg hr hv
  left
  refine ⟨hin _ _, ?_⟩
  have hr : extJoin args s = .ok v s' := hr
  obtain ⟨l⟩ := vals
  unfold extJoin at hr
  split at hr
  · rename_i x sep
    cases hv with
    | cons h1 h2 =>
      cases h2 with
      | cons h3 h4 =>
        cases h4
        obtain ⟨sb, rfl, rfl⟩ := h3
        split at hr
        · have h1 : _ = Value.slice none 0 0 := h1
          subst h1
          cases hr
          refine Calls.mono (hnone none 0 sb w) ?_
          rintro e w' ⟨rfl, rfl⟩
          exact ⟨_, rfl, ρ, ⟨Post.refl h, Same.refl _⟩, ⟨⟨#[]⟩, rfl, rfl⟩⟩
        · rename_i b o n cap z
          cases hb : and (Nat.beq z 1) (Nat.ble n 140737488355328) with
          | false => rw [hb] at hr; cases hr
          | true =>
            rw [hb] at hr
            simp only [] at hr
            rw [Bool.and_eq_true] at hb
            have hz : z = 1 := Nat.eq_of_beq_eq_true hb.1
            have hn : n ≤ 140737488355328 := Nat.le_of_ble_eq_true hb.2
            subst hz
            cases hl : readL s.h.get b o n with
            | none => rw [hl] at hr; cases hr
            | some cs =>
              rw [hl] at hr
              simp only [] at hr
              unfold joinOk at hr
              cases hj : joinC (Str.of sb) cs with
              | none => rw [hj] at hr; cases hr
              | some zz =>
                rw [hj] at hr
                simp only [] at hr
                cases hlen : Nat.ble zz.len 140737488355328 with
                | false => rw [hlen] at hr; cases hr
                | true =>
                  rw [hlen] at hr
                  cases hr
                  have hlen := Nat.le_of_ble_eq_true hlen
                  obtain ⟨p, ad, cp, hp, rfl, hs⟩ := h1
                  obtain ⟨vs, k1, k2, k3, k4⟩ := readL_rel h.sees hl hp
                  obtain ⟨xs, rfl, rfl⟩ := joinC_ok sb cs vs zz k1 hj
                  have hxn : xs.length = n := by simpa using k2
                  by_cases h0 : n = 0
                  · subst h0
                    have hx0 : xs = [] := List.length_eq_zero_iff.1 hxn
                    subst hx0
                    refine Calls.mono (hnone (some ad) cp sb w) ?_
                    rintro e w' ⟨rfl, rfl⟩
                    exact ⟨_, rfl, ρ, ⟨Post.refl h, Same.refl _⟩, ⟨⟨#[]⟩, rfl, rfl⟩⟩
                  · have had : ad = ⟨p.c, p.o + o, none⟩ := by
                      cases cap with
                      | some k => exact (hs.ex k rfl).2.2
                      | none =>
                        rcases (hs.op rfl).2 with g | g
                        · exact g
                        · have := hs.le; omega
                    subst had
                    have hbk : p.c < w.heap.size := by
                      obtain ⟨r, hr1, _⟩ := readL_some hl
                      obtain ⟨p', o', g1, g2, _⟩ := h.blk b _ hr1 rfl
                      rw [hp] at g1; cases g1
                      exact (Array.getElem?_eq_some_iff.1 g2).1
                    have := hmany p.c (p.o + o) cp xs sb w (fun j x hx => by
                      have := k4 w rfl j (.string x) (by simp [hx])
                      rw [← this]
                      unfold Addr.add
                      by_cases hj : j = 0
                      · subst hj; simp
                      · simp [hj]) hbk (by omega) (by have := hs.le; omega) hlen
                    rw [hxn] at this
                    refine Calls.mono this ?_
                    rintro e w' ⟨rfl, hb⟩
                    have hk : ∀ c, c < w.heap.size → w'.heap[c]? = w.heap[c]? := fun c hc => hb.block c hc
                    exact ⟨_, rfl, ρ, ⟨⟨Snap.le_refl _, fun _ _ _ h => .inl h, fun _ _ => rfl, Nat.le_refl _, HRel.stays h hk, hb.size, fun c hc _ => hk c hc, fun b x p h1 h2 h3 _ => ⟨b, x, p, h1, h2, h3, rfl⟩, fun b x p h1 h2 h3 _ => ⟨b, x, p, h1, h2, h3, rfl⟩⟩, ⟨hb.os, hb.output, hb.tape⟩⟩,
                      ⟨⟨(Lib.join (xs.map (·.data.toList)) sb.data.toList).toArray⟩, rfl, by rw [Str.of_eq]⟩⟩
        · cases hr
  · cases hr
end Ev

set_option linter.unusedVariables false
set_option linter.unusedSimpArgs false
namespace Ev
open Go

/-! ### a world in which package variables hold given data: for the witness alone -/
def layEach (f : DataW Unit → List Obj → Option (List Value × List Obj)) : List (DataW Unit) → List Obj → Option (List Value × List Obj)
  | [], acc => some ([], acc)
  | d :: ds, acc => match f d acc with
    | none => none
    | some (c, acc) => match layEach f ds acc with
      | none => none
      | some (r, acc) => some (c ++ r, acc)
def layFields (f : TypeId → DataW Unit → List Obj → Option (List Value × List Obj)) : List Field → List (DataW Unit) → List Obj → Option (List Value × List Obj)
  | [], _, acc => some ([], acc)
  | _ :: _, [], _ => none
  | x :: fs, d :: ds, acc => match f x.type d acc with
    | none => none
    | some (c, acc) => match layFields f fs ds acc with
      | none => none
      | some (r, acc) => some (c ++ r, acc)
def typeOf (P : Program) (name : String) : Nat → Nat → Option TypeId
  | 0, _ => none
  | f + 1, u => match P.typeName? 3 u with
    | some n => match n == name with
      | true => some u
      | false => typeOf P name f (u + 1)
    | none => typeOf P name f (u + 1)
def layD (P : Program) (N : Nat) : Nat → TypeId → DataW Unit → List Obj → Option (List Value × List Obj)
  | 0, _, _, _ => none
  | n + 1, t, d, acc => match d with
    | .lit (.int k m) => some ([.int k m], acc)
    | .lit (.bool b) => some ([.bool b], acc)
    | .lit (.string s) => some ([.string ⟨s.toArray⟩], acc)
    | .nil => match P.underlying t with
      | some (.slice _) => some ([.slice none 0 0], acc)
      | some (.pointer _) => some ([.pointer none], acc)
      | _ => none
    | .ptr d => match P.underlying t with
      | some (.pointer e) => match layD P N n e d acc with
        | some (c, acc) => some ([.pointer (some ⟨N + acc.length, 0, none⟩)], acc ++ [.cells c.toArray e (0, 0)])
        | none => none
      | _ => none
    | .slice ds [] => match P.underlying t with
      | some (.slice e) => match layEach (layD P N n e) ds acc with
        | some (c, acc) => some ([.slice (some ⟨N + acc.length, 0, none⟩) ds.length ds.length], acc ++ [.cells c.toArray e (0, 0)])
        | none => none
      | _ => none
    | .agg ds => match P.underlying t with
      | some (.array _ e) => layEach (layD P N n e) ds acc
      | some (.struct fs) => layFields (layD P N n) fs.toList ds acc
      | _ => none
    | .iface name d => match typeOf P name P.types.size 0 with
      | some u => match layD P N n u d acc with
        | some ([v], acc) => some ([.iface u v], acc)
        | _ => none
      | none => none
    | _ => none
def setCells : List Obj → Nat → List Value → List Obj
  | [], _, _ => []
  | o :: l, 0, cs => (match o with
    | .cells _ t fz => .cells cs.toArray t fz
    | o => o) :: l
  | o :: l, n + 1, cs => o :: setCells l n cs
def layVars (P : Program) (N : Nat) : List (String × DataW Unit) → List Obj → List Obj → List Obj
  | [], h, acc => h ++ acc
  | (n, d) :: l, h, acc => match P.globalNamed n with
    | none => h ++ acc
    | some g => match (P.globals[g]?).map (·.type) with
      | none => h ++ acc
      | some t => match layD P N 12 t d acc with
        | none => h ++ acc
        | some (c, acc) => layVars P N l (setCells h g c) acc
noncomputable def startWith (P : Program) (laid : List (String × DataW Unit)) (os : Os) : World :=
  { World.holding P os ⟨#[], #[], []⟩ with heap := (layVars P (World.holding P os ⟨#[], #[], []⟩).heap.toList.length laid (World.holding P os ⟨#[], #[], []⟩).heap.toList []).toArray }
/-- as 'laidMet_of_run', 'no place twice' by a set of bits -/
theorem laidMet_of_bits {P : Program} {w : World} {l : List (String × DataW Unit)} (fuel M : Nat)
    (h : ((DataW.laidRun P w fuel (l.map (·.1))).bind fun x => if nodupBits M x.2 0 && laidRowsB P w x.2 then some x.1 else none) = some l) : laidMet P l w := by
  cases hx : DataW.laidRun P w fuel (l.map (·.1)) with
  | none => rw [hx] at h; cases h
  | some x =>
    rw [hx] at h
    simp only [Option.bind_some] at h
    split at h
    · rename_i hb
      rw [Bool.and_eq_true] at hb
      cases h
      exact laidMet_of_run fuel (ps := x.2) (by rw [hx]) (decide_eq_true (nodupBits_sound hb.1).1) hb.2
    · cases h
end Ev
