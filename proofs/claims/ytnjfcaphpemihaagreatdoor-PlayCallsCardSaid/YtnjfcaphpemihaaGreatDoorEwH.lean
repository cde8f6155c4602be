import Derived.Test.YtnjfcaphpemihaaGreatDoorEwF
import Derived.ProofKit
import Derived.LaidMore
import Derived.OpenShut
import Derived.Lib.Join
import Derived.LaidOnce
import Derived.Lib.Overlaps
set_option linter.unusedVariables false
set_option linter.unusedSimpArgs false
namespace Ev
open Go Go.RowKit

def eachF (f : DataW Unit → Option (List C)) : List (DataW Unit) → Option (List C)
  | [] => some []
  | d :: ds => match f d with
    | none => none
    | some l => match eachF f ds with
      | none => none
      | some r => some (l ++ r)
def fieldsF (P : Program) (f : TypeId → DataW Unit → Option (List C)) : List Field → List (DataW Unit) → Nat → Option (List C)
  | [], [], _ => some []
  | x :: fs, d :: ds, off => match decide (x.offset = off) with
    | false => none
    | true => match f x.type d with
      | none => none
      | some l => match fieldsF P f fs ds (off + P.cellsOf x.type) with
        | none => none
        | some r => some (l ++ r)
  | _, _, _ => none
def flat (P : Program) : Nat → TypeId → DataW Unit → Option (List C)
  | 0, _, _ => none
  | n + 1, t, d => match P.underlying t with
    | some (.int k) => match d with
      | .lit (.int k' m) => match kEq k k' with
        | true => some [.int k m]
        | false => none
      | _ => none
    | some (.interface _) => match d with
      | .iface _ _ => some [.unk]
      | _ => none
    | some (.array k e) => match d with
      | .agg ds => match decide (P.cellsOf t = k * P.cellsOf e) with
        | true => eachF (flat P n e) ds
        | false => none
      | _ => none
    | some (.struct fs) => match d with
      | .agg ds => match decide (P.cellsOf t = (fs.toList.map fun f => P.cellsOf f.type).sum) with
        | true => fieldsF P (flat P n) fs.toList ds 0
        | false => none
      | _ => none
    | _ => none

noncomputable def withRow (w : World) (g : Nat) (cs : List Value) : World := { w with heap := w.heap.modify g (fun o => match o with
  | .cells _ t fz => .cells cs.toArray t fz
  | o => o) }
def valC : C → Value
  | .int k n => .int k n
  | _ => .nilIface
noncomputable def withVar (P : Program) (w : World) (n : String) (d : DataW Unit) : World := match P.globalNamed n with
  | none => w
  | some g => match (P.globals[g]?).map (·.type) with
    | none => w
    | some t => match flat P 8 t d with
      | none => w
      | some l => withRow w g (l.map valC)

abbrev no : Mp := ⟨fun _ => none, fun _ _ => none⟩

section
variable {P : Program} {w : World} {base : Nat} {sp : Nat → Bool} {held : Bool}
abbrev TR (P : Program) (w : World) (base : Nat) (sp : Nat → Bool) (held : Bool) := DataW.trod (H := Unit) (fun _ => ()) P w base sp held

theorem each_ok {cs : List Value} {c m : Nat} {e : TypeId} {f : DataW Unit → Option (List C)} (hf : ∀ (d : DataW Unit) (l : List C) (cs : List Value) (ps : List MemPlace), TR P w base sp held m e cs = some (d, ps) → f d = some l → All2 (CRel no) l cs) :
    ∀ (xs : List (DataW Unit × List MemPlace)) (off : Nat) (l : List C), (∀ i, i < xs.length → TR P w base sp held m e ((cs.drop (off + i * c)).take c) = xs[i]?) → eachF f (xs.map (·.1)) = some l →
      All2 (CRel no) l ((cs.drop off).take (xs.length * c)) := by
  intro xs
  induction xs with
  | nil => intro off l _ h; cases h; simp; exact .nil
  | cons x xs ih =>
    intro off l hx h
    simp only [List.map_cons, eachF] at h
    cases h1 : f x.1 with
    | none => rw [h1] at h; cases h
    | some l1 =>
      rw [h1] at h
      simp only [] at h
      cases h2 : eachF f (xs.map (·.1)) with
      | none => rw [h2] at h; cases h
      | some l2 =>
        rw [h2] at h
        cases h
        have a0 := hx 0 (by simp)
        rw [Nat.zero_mul, Nat.add_zero] at a0
        have q1 := hf x.1 l1 _ x.2 (by rw [a0]; rfl) h1
        have q2 := ih (off + c) l2 (fun i hi => by
          have := hx (i + 1) (by simp; omega)
          rw [show off + (i + 1) * c = off + c + i * c by rw [Nat.add_mul]; omega] at this
          simpa using this) h2
        rw [List.length_cons, Nat.add_mul, Nat.one_mul, Nat.add_comm, List.take_add, List.drop_drop]
        exact q1.append q2

theorem fields_ok {cs : List Value} {m : Nat} {f : TypeId → DataW Unit → Option (List C)} (hf : ∀ (t : TypeId) (d : DataW Unit) (l : List C) (cs : List Value) (ps : List MemPlace), TR P w base sp held m t cs = some (d, ps) → f t d = some l → All2 (CRel no) l cs) :
    ∀ (fs : List Field) (xs : List (DataW Unit × List MemPlace)) (off : Nat) (l : List C), xs.length = fs.length → (∀ (i : Nat) (x : Field), fs[i]? = some x → TR P w base sp held m x.type ((cs.drop x.offset).take (P.cellsOf x.type)) = xs[i]?) →
      fieldsF P f fs (xs.map (·.1)) off = some l → All2 (CRel no) l ((cs.drop off).take ((fs.map fun f => P.cellsOf f.type).sum)) := by
  intro fs
  induction fs with
  | nil =>
    intro xs off l hl _ h
    cases xs with
    | nil => cases h; simp; exact .nil
    | cons x xs => simp at hl
  | cons y fs ih =>
    intro xs off l hl hx h
    cases xs with
    | nil => simp at hl
    | cons x xs =>
      simp only [List.map_cons, fieldsF] at h
      cases ho : decide (y.offset = off) with
      | false => rw [ho] at h; cases h
      | true =>
        rw [ho] at h
        have ho := of_decide_eq_true ho
        simp only [] at h
        cases h1 : f y.type x.1 with
        | none => rw [h1] at h; cases h
        | some l1 =>
          rw [h1] at h
          simp only [] at h
          cases h2 : fieldsF P f fs (xs.map (·.1)) (off + P.cellsOf y.type) with
          | none => rw [h2] at h; cases h
          | some l2 =>
            rw [h2] at h
            cases h
            have a0 := hx 0 y rfl
            rw [ho] at a0
            have q1 := hf y.type x.1 l1 _ x.2 (by rw [a0]; rfl) h1
            have q2 := ih xs (off + P.cellsOf y.type) l2 (by simpa using hl) (fun i z hz => by
              have := hx (i + 1) z (by simpa using hz)
              simpa using this) h2
            rw [List.map_cons, List.sum_cons, List.take_add, List.drop_drop]
            exact q1.append q2

theorem flat_ok : ∀ (n fuel : Nat) (t : TypeId) (d : DataW Unit) (l : List C) (cs : List Value) (ps : List MemPlace), TR P w base sp held fuel t cs = some (d, ps) → flat P n t d = some l → All2 (CRel no) l cs := by
  intro n
  induction n with
  | zero => intro fuel t d l cs ps _ h; cases h
  | succ n ih =>
    intro fuel t d l cs ps ht h
    simp only [flat] at h
    split at h
    · rename_i k hu
      split at h
      · rename_i k' m
        split at h
        · rename_i hk
          cases h
          obtain ⟨m', rfl, hx, _⟩ := DataW.trod_int hu ht
          simp only [Prod.mk.injEq, DataW.lit.injEq, Lit.int.injEq] at hx
          obtain ⟨⟨rfl, rfl⟩, _⟩ := hx
          exact .cons rfl .nil
        · cases h
      · cases h
    · rename_i ms hu
      split at h
      · rename_i nm d'
        cases h
        cases fuel with
        | zero => simp [DataW.trod] at ht
        | succ fuel =>
          unfold TR DataW.trod at ht
          rw [hu] at ht
          split at ht <;> first | (simp_all; done) | skip
          all_goals first
            | exact .cons ⟨rfl, rfl⟩ .nil
            | (simp_all; done)
      · cases h
    · rename_i k e hu
      split at h
      · rename_i ds
        split at h
        · rename_i hc
          have hc := of_decide_eq_true hc
          obtain ⟨xs, m, rfl, hx, hl, hn, hi⟩ := DataW.trod_array hu ht
          simp only [Prod.mk.injEq, DataW.agg.injEq] at hx
          obtain ⟨rfl, _⟩ := hx
          have := each_ok (cs := cs) (c := P.cellsOf e) (f := flat P n e) (fun d l cs ps h1 h2 => ih m e d l cs ps h1 h2) xs 0 l (fun i hi' => by rw [Nat.zero_add]; exact hi i (by omega)) h
          rw [List.drop_zero, hn, ← hc, ← hl, List.take_length] at this
          exact this
        · cases h
      · cases h
    · rename_i fs hu
      split at h
      · rename_i ds
        split at h
        · rename_i hc
          have hc := of_decide_eq_true hc
          obtain ⟨xs, m, rfl, hx, hl, hn, hi⟩ := DataW.trod_struct hu ht
          simp only [Prod.mk.injEq, DataW.agg.injEq] at hx
          obtain ⟨rfl, _⟩ := hx
          have := fields_ok (cs := cs) (f := flat P n) (fun t d l cs ps h1 h2 => ih m t d l cs ps h1 h2) fs.toList xs 0 l (by simpa using hn) (fun i x hx => hi i x (by simpa using hx)) h
          rw [List.drop_zero, ← hc, ← hl, List.take_length] at this
          exact this
        · cases h
      · cases h
    · cases h
end

def gsOf (P : Program) (laid : List (String × DataW Unit)) : List String → Option (List (Nat × List C))
  | [] => some []
  | n :: ns => match P.globalNamed n with
    | none => none
    | some g => match (P.globals[g]?).map (·.type) with
      | none => none
      | some t => match laid.find? (·.1 == n) with
        | none => none
        | some x => match flat P 8 t x.2 with
          | none => none
          | some l => match gsOf P laid ns with
            | none => none
            | some r => some ((g, l) :: r)

theorem laidVars_mem {P : Program} {w : World} : ∀ (laid : List (String × DataW Unit)) (ps : List MemPlace), DataW.LaidVars P w laid ps → ∀ n d, (n, d) ∈ laid →
    ∃ g t cs fuel p, P.globalNamed n = some g ∧ (P.globals[g]?).map (·.type) = some t ∧ w.var? P n = some cs ∧ DataW.trod (fun _ => ()) P w 0 (fun _ => true) false fuel t cs.toList = some (d, p) := by
  intro laid
  induction laid with
  | nil => intro ps _ n d h; simp at h
  | cons x laid ih =>
    intro ps h n d hm
    obtain ⟨n', d'⟩ := x
    obtain ⟨g, t, cs, fuel, p, q, h1, h2, h3, h4, h5, _⟩ := h
    rcases List.mem_cons.1 hm with e | hm
    · cases e; exact ⟨g, t, cs, fuel, p, h1, h2, h3, h4⟩
    · exact ih q h5 n d hm

theorem holds_of_laid {P : Program} {w : World} {laid : List (String × DataW Unit)} (h : laidMet P laid w) : ∀ (ns : List String) (gs : List (Nat × List C)), gsOf P laid ns = some gs → HoldsRows gs w.heap := by
  obtain ⟨ps, hl, _, _⟩ := h
  intro ns
  induction ns with
  | nil => intro gs h g l hm; cases h; simp at hm
  | cons n ns ih =>
    intro gs h
    simp only [gsOf] at h
    cases hg : P.globalNamed n with
    | none => rw [hg] at h; cases h
    | some g =>
      rw [hg] at h
      simp only [] at h
      cases ht : (P.globals[g]?).map (·.type) with
      | none => rw [ht] at h; cases h
      | some t =>
        rw [ht] at h
        simp only [] at h
        cases hx : laid.find? (·.1 == n) with
        | none => rw [hx] at h; cases h
        | some x =>
          rw [hx] at h
          simp only [] at h
          cases hf : flat P 8 t x.2 with
          | none => rw [hf] at h; cases h
          | some l =>
            rw [hf] at h
            simp only [] at h
            cases hr : gsOf P laid ns with
            | none => rw [hr] at h; cases h
            | some r =>
              rw [hr] at h
              cases h
              intro g' l' hm
              rcases List.mem_cons.1 hm with e | hm
              · cases e
                have hn : x.1 = n := by have := List.find?_some hx; simpa using this
                have hmem := List.mem_of_find?_eq_some hx
                obtain ⟨n0, d0⟩ := x
                subst hn
                obtain ⟨g2, t2, cs, fuel, p, k1, k2, k3, k4⟩ := laidVars_mem laid ps hl n0 d0 hmem
                rw [hg] at k1; cases k1
                rw [ht] at k2; cases k2
                have hcs := flat_ok 8 fuel t d0 l cs.toList p k4 hf
                unfold World.var? at k3
                rw [hg] at k3
                simp only [Option.bind_some] at k3
                split at k3
                · rename_i cs' e fz hh
                  cases k3
                  exact ⟨_, e, fz, hh, hcs⟩
                · cases k3
              · exact ih r hr g' l' hm
def allTo (f : Nat → Bool) : Nat → Bool
  | 0 => true
  | n + 1 => match f n with
    | true => allTo f n
    | false => false
theorem allTo_all {f : Nat → Bool} {n : Nat} (h : allTo f n = true) (h' : ∀ k, f (k + n) = true) (i : Nat) : f i = true := by
  have low : ∀ n, allTo f n = true → ∀ i, i < n → f i = true := by
    intro n
    induction n with
    | zero => intro _ i hi; omega
    | succ n ih =>
      intro h i hi
      simp only [allTo] at h
      cases hb : f n with
      | false => rw [hb] at h; cases h
      | true =>
        rw [hb] at h
        by_cases e : i = n
        · rw [e]; exact hb
        · exact ih h i (by omega)
  by_cases hi : i < n
  · exact low n h i hi
  · obtain ⟨k, rfl⟩ : ∃ k, i = k + n := ⟨i - n, by omega⟩
    exact h' k
end Ev

set_option linter.unusedVariables false
set_option linter.unusedSimpArgs false
namespace Ev
open Go

theorem joinL_ok {ρ : Mp} (sep : ByteArray) : ∀ (l : List C) (vs : List Value) (acc : List UInt8) (z : Str), LRel ρ l vs → joinL (Str.of sep) l (Str.ofL acc) = some z →
    ∃ xs : List ByteArray, vs = xs.map Value.string ∧ z = Str.ofL (acc ++ Lib.joinTail sep.data.toList (xs.map (·.data.toList))) := by
  intro l
  induction l with
  | nil =>
    intro vs acc z hl h
    cases hl
    simp only [joinL, Option.some.injEq] at h
    exact ⟨[], rfl, by rw [← h]; simp [Lib.joinTail]⟩
  | cons c l ih =>
    intro vs acc z hl h
    cases hl with
    | cons h1 h2 =>
      cases c <;> simp only [joinL, reduceCtorEq] at h
      obtain ⟨bs, rfl, rfl⟩ := h1
      rw [Str.of_eq, Str.of_eq, Str.app_ofL, Str.app_ofL] at h
      rw [← Str.of_eq] at h
      obtain ⟨xs, rfl, rfl⟩ := ih _ _ _ h2 h
      exact ⟨bs :: xs, rfl, by simp [Lib.joinTail]⟩

theorem joinC_ok {ρ : Mp} (sep : ByteArray) (l : List C) (vs : List Value) (z : Str) (hl : LRel ρ l vs) (h : joinC (Str.of sep) l = some z) :
    ∃ xs : List ByteArray, vs = xs.map Value.string ∧ z = Str.ofL (Lib.join (xs.map (·.data.toList)) sep.data.toList) := by
  cases hl with
  | nil =>
    simp only [joinC, Option.some.injEq] at h
    exact ⟨[], rfl, by rw [← h]; rfl⟩
  | cons h1 h2 =>
    rename_i c v l vs
    cases c <;> simp only [joinC, reduceCtorEq] at h
    obtain ⟨bs, rfl, rfl⟩ := h1
    rw [Str.of_eq bs] at h
    obtain ⟨xs, rfl, rfl⟩ := joinL_ok sep l vs _ z h2 h
    exact ⟨bs :: xs, rfl, by rw [List.map_cons, Lib.join_cons]⟩

theorem ext_join {P : Program} {ng f : Nat} (hin : ∀ args w, (callFunc f args).run P w = .ok (.enter f args) w)
    (hnone : ∀ (a : Option Addr) (c : Nat) (sep : ByteArray) (w : World), Calls P f #[.slice a 0 c, .string sep] w fun e w' => e = .returned (.string ⟨#[]⟩) ∧ w' = w)
    (hmany : ∀ (bk o c : Nat) (xs : List ByteArray) (sep : ByteArray) (w : World), (∀ (j : Nat) x, xs[j]? = some x → w.cell? ⟨bk, o + j, none⟩ = some (.string x)) → bk < w.heap.size → xs.length ≤ 140737488355328 → xs.length ≤ c →
      (Lib.join (xs.map (·.data.toList)) sep.data.toList).length ≤ 140737488355328 →
      Calls P f #[.slice (some ⟨bk, o, none⟩) xs.length c, .string sep] w fun e w' => e = .returned (.string ⟨(Lib.join (xs.map (·.data.toList)) sep.data.toList).toArray⟩) ∧ RowKit.Below w.heap.size w w') :
    ExtOne P ng f .join := by
  intro args s v s' ρ w vals h hg hr hv
  left
  refine ⟨hin _ _, ?_⟩
  have hr : extJoin args s = .ok v s' := hr
  obtain ⟨l⟩ := vals
  unfold extJoin at hr
  split at hr
  · rename_i x sep
    cases hv with
    | cons h1 h2 =>
      cases h2 with
      | cons h3 h4 =>
        cases h4
        obtain ⟨sb, rfl, rfl⟩ := h3
        split at hr
        · have h1 : _ = Value.slice none 0 0 := h1
          subst h1
          cases hr
          refine Calls.mono (hnone none 0 sb w) ?_
          rintro e w' ⟨rfl, rfl⟩
          exact ⟨_, rfl, ρ, ⟨Post.refl h, Same.refl _⟩, ⟨⟨#[]⟩, rfl, rfl⟩⟩
        · rename_i b o n cap z
          cases hb : and (Nat.beq z 1) (Nat.ble n 140737488355328) with
          | false => rw [hb] at hr; cases hr
          | true =>
            rw [hb] at hr
            simp only [] at hr
            rw [Bool.and_eq_true] at hb
            have hz : z = 1 := Nat.eq_of_beq_eq_true hb.1
            have hn : n ≤ 140737488355328 := Nat.le_of_ble_eq_true hb.2
            subst hz
            cases hl : readL s.h.get b o n with
            | none => rw [hl] at hr; cases hr
            | some cs =>
              rw [hl] at hr
              simp only [] at hr
              unfold joinOk at hr
              cases hj : joinC (Str.of sb) cs with
              | none => rw [hj] at hr; cases hr
              | some zz =>
                rw [hj] at hr
                simp only [] at hr
                cases hlen : Nat.ble zz.len 140737488355328 with
                | false => rw [hlen] at hr; cases hr
                | true =>
                  rw [hlen] at hr
                  cases hr
                  have hlen := Nat.le_of_ble_eq_true hlen
                  obtain ⟨p, ad, cp, hp, rfl, hs⟩ := h1
                  obtain ⟨vs, k1, k2, k3, k4⟩ := readL_rel h.sees hl hp
                  obtain ⟨xs, rfl, rfl⟩ := joinC_ok sb cs vs zz k1 hj
                  have hxn : xs.length = n := by simpa using k2
                  by_cases h0 : n = 0
                  · subst h0
                    have hx0 : xs = [] := List.length_eq_zero_iff.1 hxn
                    subst hx0
                    refine Calls.mono (hnone (some ad) cp sb w) ?_
                    rintro e w' ⟨rfl, rfl⟩
                    exact ⟨_, rfl, ρ, ⟨Post.refl h, Same.refl _⟩, ⟨⟨#[]⟩, rfl, rfl⟩⟩
                  · have had : ad = ⟨p.c, p.o + o, none⟩ := by
                      cases cap with
                      | some k => exact (hs.ex k rfl).2.2
                      | none =>
                        rcases (hs.op rfl).2 with g | g
                        · exact g
                        · have := hs.le; omega
                    subst had
                    have hbk : p.c < w.heap.size := by
                      obtain ⟨r, hr1, _⟩ := readL_some hl
                      obtain ⟨p', o', g1, g2, _⟩ := h.blk b _ hr1 rfl
                      rw [hp] at g1; cases g1
                      exact (Array.getElem?_eq_some_iff.1 g2).1
                    have := hmany p.c (p.o + o) cp xs sb w (fun j x hx => by
                      have := k4 w rfl j (.string x) (by simp [hx])
                      rw [← this]
                      unfold Addr.add
                      by_cases hj : j = 0
                      · subst hj; simp
                      · simp [hj]) hbk (by omega) (by have := hs.le; omega) hlen
                    rw [hxn] at this
                    refine Calls.mono this ?_
                    rintro e w' ⟨rfl, hb⟩
                    have hk : ∀ c, c < w.heap.size → w'.heap[c]? = w.heap[c]? := fun c hc => hb.block c hc
                    exact ⟨_, rfl, ρ, ⟨⟨Snap.le_refl _, fun _ _ _ h => .inl h, fun _ _ => rfl, Nat.le_refl _, HRel.stays h hk, hb.size, fun c hc _ => hk c hc, fun b x p h1 h2 h3 _ => ⟨b, x, p, h1, h2, h3, rfl⟩, fun b x p h1 h2 h3 _ => ⟨b, x, p, h1, h2, h3, rfl⟩⟩, ⟨hb.os, hb.output, hb.tape⟩⟩,
                      ⟨⟨(Lib.join (xs.map (·.data.toList)) sb.data.toList).toArray⟩, rfl, by rw [Str.of_eq]⟩⟩
        · cases hr
  · cases hr
end Ev

set_option linter.unusedVariables false
set_option linter.unusedSimpArgs false
namespace Ev
open Go

def layEach (f : DataW Unit → List Obj → Option (List Value × List Obj)) : List (DataW Unit) → List Obj → Option (List Value × List Obj)
  | [], acc => some ([], acc)
  | d :: ds, acc => match f d acc with
    | none => none
    | some (c, acc) => match layEach f ds acc with
      | none => none
      | some (r, acc) => some (c ++ r, acc)
def layFields (f : TypeId → DataW Unit → List Obj → Option (List Value × List Obj)) : List Field → List (DataW Unit) → List Obj → Option (List Value × List Obj)
  | [], _, acc => some ([], acc)
  | _ :: _, [], _ => none
  | x :: fs, d :: ds, acc => match f x.type d acc with
    | none => none
    | some (c, acc) => match layFields f fs ds acc with
      | none => none
      | some (r, acc) => some (c ++ r, acc)
def typeOf (P : Program) (name : String) : Nat → Nat → Option TypeId
  | 0, _ => none
  | f + 1, u => match P.typeName? 3 u with
    | some n => match n == name with
      | true => some u
      | false => typeOf P name f (u + 1)
    | none => typeOf P name f (u + 1)
def layD (P : Program) (N : Nat) : Nat → TypeId → DataW Unit → List Obj → Option (List Value × List Obj)
  | 0, _, _, _ => none
  | n + 1, t, d, acc => match d with
    | .lit (.int k m) => some ([.int k m], acc)
    | .lit (.bool b) => some ([.bool b], acc)
    | .lit (.string s) => some ([.string ⟨s.toArray⟩], acc)
    | .nil => match P.underlying t with
      | some (.slice _) => some ([.slice none 0 0], acc)
      | some (.pointer _) => some ([.pointer none], acc)
      | _ => none
    | .ptr d => match P.underlying t with
      | some (.pointer e) => match layD P N n e d acc with
        | some (c, acc) => some ([.pointer (some ⟨N + acc.length, 0, none⟩)], acc ++ [.cells c.toArray e (0, 0)])
        | none => none
      | _ => none
    | .slice ds [] => match P.underlying t with
      | some (.slice e) => match layEach (layD P N n e) ds acc with
        | some (c, acc) => some ([.slice (some ⟨N + acc.length, 0, none⟩) ds.length ds.length], acc ++ [.cells c.toArray e (0, 0)])
        | none => none
      | _ => none
    | .agg ds => match P.underlying t with
      | some (.array _ e) => layEach (layD P N n e) ds acc
      | some (.struct fs) => layFields (layD P N n) fs.toList ds acc
      | _ => none
    | .iface name d => match typeOf P name P.types.size 0 with
      | some u => match layD P N n u d acc with
        | some ([v], acc) => some ([.iface u v], acc)
        | _ => none
      | none => none
    | _ => none
def setCells : List Obj → Nat → List Value → List Obj
  | [], _, _ => []
  | o :: l, 0, cs => (match o with
    | .cells _ t fz => .cells cs.toArray t fz
    | o => o) :: l
  | o :: l, n + 1, cs => o :: setCells l n cs
def layVars (P : Program) (N : Nat) : List (String × DataW Unit) → List Obj → List Obj → List Obj
  | [], h, acc => h ++ acc
  | (n, d) :: l, h, acc => match P.globalNamed n with
    | none => h ++ acc
    | some g => match (P.globals[g]?).map (·.type) with
      | none => h ++ acc
      | some t => match layD P N 12 t d acc with
        | none => h ++ acc
        | some (c, acc) => layVars P N l (setCells h g c) acc
noncomputable def startWith (P : Program) (laid : List (String × DataW Unit)) (os : Os) : World :=
  { World.holding P os ⟨#[], #[], []⟩ with heap := (layVars P (World.holding P os ⟨#[], #[], []⟩).heap.toList.length laid (World.holding P os ⟨#[], #[], []⟩).heap.toList []).toArray }
theorem laidMet_of_bits {P : Program} {w : World} {l : List (String × DataW Unit)} (fuel M : Nat)
    (h : ((DataW.laidRun P w fuel (l.map (·.1))).bind fun x => if nodupBits M x.2 0 && laidRowsB P w x.2 then some x.1 else none) = some l) : laidMet P l w := by
  cases hx : DataW.laidRun P w fuel (l.map (·.1)) with
  | none => rw [hx] at h; cases h
  | some x =>
    rw [hx] at h
    simp only [Option.bind_some] at h
    split at h
    · rename_i hb
      rw [Bool.and_eq_true] at hb
      cases h
      exact laidMet_of_run fuel (ps := x.2) (by rw [hx]) (decide_eq_true (nodupBits_sound hb.1).1) hb.2
    · cases h
end Ev

set_option linter.unusedVariables false
set_option linter.unusedSimpArgs false
namespace Ev
open Go

def litW : W → Bool
  | .c x => litC x
  | _ => false
theorem litW_rel {l : List W} {ρ ρ' : Mp} {vs : List Value} (h : l.all litW = true) (hr : All2 (WRel ρ) l vs) : All2 (WRel ρ') l vs := by
  induction hr with
  | nil => exact .nil
  | @cons a b l r h1 _ ih =>
    simp only [List.all_cons, Bool.and_eq_true] at h
    refine .cons ?_ (ih h.2)
    cases a with
    | c x => exact litC_rel h.1 h1
    | agg l => cases h.1

noncomputable def memoRun (r : VS) (n z : Nat) (cells : List C) : Bool := match r with
  | .ok (.w (.c (.sl b o n' _ z'))) s1 => match rowOf s1.h.get b with
    | some r => match and r.leaf (and (Nat.beq n' n) (Nat.beq z' z)) with
      | true => match readL s1.h.get b o (Nat.mul n z) with
        | some l => sameL l cells
        | none => false
      | false => false
    | none => false
  | _ => false

theorem memoAt_some {z : Nat} {args : List W} {s s' : St} {v : V} : ∀ (ms : List (List W × Nat × List C)), memoAt z args s ms = .ok v s' →
    ∃ m ∈ ms, args = m.1 ∧ v = vc (.sl s.nx 0 m.2.1 none z) ∧ s' = s.new (.row (row0 m.2.2)) := by
  intro ms
  induction ms with
  | nil => intro h; cases h
  | cons m ms ih =>
    intro h
    simp only [memoAt] at h
    cases hb : sameWL args m.1 with
    | true =>
      rw [hb] at h
      cases h
      exact ⟨m, by simp, sameWL_eq hb, rfl, rfl⟩
    | false =>
      rw [hb] at h
      obtain ⟨m', h1, h2⟩ := ih h
      exact ⟨m', List.mem_cons_of_mem _ h1, h2⟩

section
variable {P : Program} {kps : List (Nat × Nat)} {exts : List (Nat × Ext)}

theorem ext_memo (hany : P.follows .mixedOrders = true) (ht : typesOk P = true) (hk : kps.all (fun p => fnOk P p.1) = true) (hx : ∀ p ∈ exts, ExtOne P P.globals.size p.1 p.2) {lf n f : Nat} (gs : List (Nat × List C)) (z : Nat)
    (hgs : gs.all (fun p => and (p.2.all plainC) (decide (p.1 < P.globals.size))) = true) (hf : (pairT exts .nil).get f = none) (ms : List (List W × Nat × List C))
    (hlit : ms.all (fun m => and (m.1.all litW) (m.2.2.all plainC)) = true)
    (hr : ∀ m ∈ ms, memoRun (runF (envOf P exts kps) lf (n + 1) f m.1 (st0 gs P.globals.size)) m.2.1 z m.2.2 = true) : ExtOne P P.globals.size f (.memo ms gs z) := by
  intro args s v s' ρ w vals h hg hr' hv
  left
  have hr' : (match rowsAre s.h.get gs with | true => memoAt z args s ms | false => VS.no) = .ok v s' := hr'
  cases ha : rowsAre s.h.get gs with
  | false => rw [ha] at hr'; cases hr'
  | true =>
    rw [ha] at hr'
    obtain ⟨m, hm, rfl, rfl, rfl⟩ := memoAt_some ms hr'
    obtain ⟨margs, k, cells⟩ := m
    have hl := List.all_eq_true.1 hlit _ hm
    rw [Bool.and_eq_true] at hl
    have hrun := hr _ hm
    simp only at hrun hl hv ⊢
    unfold memoRun at hrun
    split at hrun
    · rename_i b o k' cap z' s1 hs1
      cases hrow : rowOf s1.h.get b with
      | none => rw [hrow] at hrun; cases hrun
      | some r =>
        rw [hrow] at hrun
        simp only [] at hrun
        cases hc : and r.leaf (and (Nat.beq k' k) (Nat.beq z' z)) with
        | false => rw [hc] at hrun; cases hrun
        | true =>
          rw [hc] at hrun
          simp only [] at hrun
          rw [Bool.and_eq_true, Bool.and_eq_true] at hc
          obtain ⟨hleaf, hk1, hz1⟩ := hc
          have hk1 := Nat.eq_of_beq_eq_true hk1
          have hz1 := Nat.eq_of_beq_eq_true hz1
          subst hk1 hz1
          cases hl2 : readL s1.h.get b o (Nat.mul k' z') with
          | none => rw [hl2] at hrun; cases hrun
          | some l =>
            rw [hl2] at hrun
            have hcells := sameL_eq hrun
            subst hcells
            have hrel := hrel_rows h gs hgs ha
            have hgok : GOk P.globals.size (ρ.cut P.globals.size) := fun g hlt => by
              obtain ⟨p, q1, q2⟩ := hg g hlt
              exact ⟨p, by rw [Mp.cut_at, if_pos hlt]; exact q1, q2⟩
            have := run_calls' hany ht hk hx hf hrel hgok hs1 (litW_rel hl.1 hv)
            refine ⟨this.1, Calls.mono this.2 ?_⟩
            rintro e w' ⟨u, rfl, ρ1, ⟨hp, hsm⟩, hu⟩
            have hkept := st0_frame hp
            have hstay := HRel.stays h hkept
            obtain ⟨p, ad, cp, hpb, rfl, hs⟩ := hu
            obtain ⟨r', q1, q2, q3⟩ := readL_some hl2
            have hrr : r' = r := by
              unfold rowOf at hrow
              rw [q1] at hrow
              cases hrow; rfl
            subst hrr
            obtain ⟨p2, ob, g1, g2, arr, ty, fz, rfl, hrow2⟩ := hp.rel.blk b _ q1 rfl
            rw [hpb] at g1; cases g1
            obtain ⟨vs, k1, k2, k3⟩ := getL_rel hrow2 q2 q3
            have hlen : l.length = k' * z' := by rw [k1.length, k2]; rfl
            have hfresh : w.heap.size ≤ p.c := by
              rcases Nat.lt_or_ge p.c w.heap.size with g | g
              · obtain ⟨b0, x0, p0, e1, e2, _⟩ := hp.wrs b _ p q1 hleaf hpb g
                obtain ⟨l0, _, rfl⟩ := rows0_get gs b0 x0 e1
                cases e2
              · exact g
            have hq2 : o + k' * z' ≤ r'.n := q2
            have hle := hrow2.le
            have hkn := hrow2.kn
            have htot := hrow2.tot
            obtain ⟨p', hp'⟩ : ∃ p' : Place, p' = ⟨p.c, p.o + o, p.tot, k' * z'⟩ := ⟨_, rfl⟩
            have hnone : ρ s.nx = none := h.fresh (Nat.le_refl _)
            have hle' : ρ.le (ρ.put s.nx p') := Mp.le_put hnone
            have old : ∀ b x, (s.new (.row (row0 l))).h.get b = some x → b ≠ s.nx → s.h.get b = some x := by
              intro b x hx hb
              obtain ⟨hh, nx⟩ := s
              have hx : (hh.set nx (.row (row0 l))).get b = some x := hx
              rw [T.get_set, if_neg hb] at hx
              exact hx
            have new : (s.new (.row (row0 l))).h.get s.nx = some (.row (row0 l)) := by
              obtain ⟨hh, nx⟩ := s
              show (hh.set nx (.row (row0 l))).get nx = _
              rw [T.get_set, if_pos rfl]
            have newIs : ∀ x, (s.new (.row (row0 l))).h.get s.nx = some x → x = .row (row0 l) := fun x hx => by rw [new] at hx; cases hx; rfl
            have hnx : (s.new (.row (row0 l))).nx = s.nx + 1 := by obtain ⟨hh, nx⟩ := s; rfl
            have hrown : (row0 l).n = k' * z' := by
              show lenA l 0 = _
              rw [lenA_zero, hlen]
            have hput : ∀ b, b ≠ s.nx → (ρ.put s.nx p') b = ρ b := fun b hb => by rw [Mp.put_at, if_neg hb]
            have hpnew : (ρ.put s.nx p') s.nx = some p' := by rw [Mp.put_at, if_pos rfl]
            have hlt : ∀ b x q, s.h.get b = some x → alive x = true → ρ b = some q → q.c < w.heap.size := by
              intro b x q hx ha hq
              obtain ⟨q', o', u1, u2, _⟩ := h.blk b x hx ha
              rw [hq] at u1; cases u1
              exact (Array.getElem?_eq_some_iff.1 u2).1
            refine ⟨_, rfl, ρ.put s.nx p', ⟨⟨Snap.le_refl _, fun _ _ _ h => .inl h, fun b hb => hput b (by omega), by rw [hnx]; omega, ⟨hstay.lies, fun b x q hx hw' hq => by
                have e : b ≠ s.nx := by
                  intro e
                  subst e
                  have := newIs x hx
                  subst this
                  cases hw'
                rw [hput b e] at hq
                exact h.away b x q (old b x hx e) hw' hq, ?_, ?_, ?_⟩, hp.sz, fun c hc _ => hkept c hc, ?_, ?_⟩, hsm⟩, ⟨p', ad, cp, hpnew, rfl, ?_⟩⟩
            · intro b q hb
              rw [hnx]
              by_cases e : b = s.nx
              · omega
              · rw [hput b e] at hb
                have := h.dom b q hb
                omega
            · intro b x hx ha'
              by_cases e : b = s.nx
              · subst e
                have := newIs x hx
                subst this
                refine ⟨p', _, hpnew, by rw [hp']; exact g2, arr, ty, fz, rfl, ?_⟩
                subst hp'
                refine ⟨htot, hrown, by rw [hrown]; simp only; omega, .inl (Nat.zero_le _), ?_, (fun hl => by cases hl), (fun hl => by cases hl)⟩
                intro i x hi hx
                rw [hrown] at hi
                have hx' : (T.ofL l).get i = some x := hx
                rw [T.get_ofL] at hx'
                obtain ⟨v, y1, y2⟩ := k1.get hx'
                refine ⟨v, ?_, plainC_rel (List.all_eq_true.1 hl.2 x (List.mem_of_getElem? hx')) y2⟩
                rw [k3 i hi]; exact y1
              · obtain ⟨q, o', u1, u2, u3⟩ := hstay.blk b x (old b x hx e) ha'
                exact ⟨q, o', by rw [hput b e]; exact u1, u2, u3.mono hle'⟩
            · intro b x b' x' q q' hx hw' hx' ha' hne hq hq' hcc
              have e : b ≠ s.nx := by
                intro e
                subst e
                have := newIs x hx
                subst this
                cases hw'
              rw [hput b e] at hq
              have hxo := old b x hx e
              by_cases e' : b' = s.nx
              · subst e'
                rw [hpnew] at hq'; cases hq'
                have := hlt b x q hxo (wr_alive hw') hq
                rw [hcc, hp'] at this
                simp only at this
                omega
              · rw [hput b' e'] at hq'
                exact h.apart b x b' x' q q' hxo hw' (old b' x' hx' e') ha' hne hq hq' hcc
            · intro b x q hx hw' hq hc
              have e : b ≠ s.nx := by
                intro e
                subst e
                have := newIs x hx
                subst this
                cases hw'
              rw [hput b e] at hq
              exact ⟨b, x, q, old b x hx e, hw', hq, rfl⟩
            · intro b x q hx ha' hq hc
              by_cases e : b = s.nx
              · subst e
                rw [hpnew] at hq; cases hq
                rw [hp'] at hc
                simp only at hc
                omega
              · rw [hput b e] at hq
                exact ⟨b, x, q, old b x hx e, ha', hq, rfl⟩
            · subst hp'
              have hst := hs.tot
              refine ⟨hs.zpos, hs.le, fun k hk => (by cases hk), fun _ => ⟨?_, ?_⟩, ?_, ?_⟩
              · simp only
                have := Nat.mul_le_mul_right z' hs.le
                omega
              · simp only [Nat.add_zero]
                cases cap with
                | some kk => exact .inl (hs.ex kk rfl).2.2
                | none => exact (hs.op rfl).2
              · simp only; omega
              · simp only; omega
    · cases hrun
end
end Ev

namespace Ev
open Go

theorem HRel.alone {ρ : Mp} {look : Look} {nx : Nat} {H : Array Obj} (h : HRel ρ look nx H) {b : Nat} {r : Row} (hb : look b = some (.row r)) (hl : r.leaf = true) (ha : r.anc = []) {p : Place} (hp : ρ b = some p) :
    ∀ b' x' p', look b' = some x' → alive x' = true → b' ≠ b → ρ b' = some p' → p'.c ≠ p.c := by
  intro b' x' p' hx hx2 hne hp' hc
  obtain ⟨r1, r2, e1, _, _, _, e5⟩ := h.apart b _ b' x' p p' hb hl hx hx2 hne hp hp' hc.symm
  cases e1
  rw [ha] at e5
  cases e5

theorem rowOf_look {look : Look} {b : Nat} {r : Row} (h : rowOf look b = some r) : look b = some (.row r) := by
  unfold rowOf at h
  cases hx : look b with
  | none => rw [hx] at h; cases h
  | some y =>
    rw [hx] at h
    cases y <;> first | (cases h; rfl) | cases h

theorem run_overlaps_apart' (P : Program) (w : World) (tS tR e : TypeId) (ht : P.underlying tS = some (.slice e)) (size : Nat) (hz : ∀ w, (Go.sizeOf e).run P w = .ok size w)
    (a b : Addr) (la ca lb cb : Nat) (hne : a.block ≠ b.block) (tA tB : TypeId) (kA kB : Nat)
    (hsa : w.shape? a.block = some (tA, kA)) (hsb : w.shape? b.block = some (tB, kB)) (hkA : kA ≠ 0)
    (hfb : w.frozen? b = false) (hfe : w.frozen? { block := b.block, off := kB } = false) :
    (Extern.SlicesOverlaps.overlaps #[tS, tS] #[tR] #[.slice (some a) la ca, .slice (some b) lb cb]).run P w = .ok (.bool false) w := by
  have hnb : (a.block != b.block) = true := by simpa using hne
  have hnb' : (a.block == b.block) = false := by simpa using hne
  change Sem.run P (α := Value) (do
    let some t := (#[tS, tS] : Array TypeId)[0]? | stuck "slices.overlaps: no parameter types"
    let .slice elem ← underlying t | stuck "slices.overlaps: slice type expected"
    let size ← sizeOf elem
    match (some a : Option Addr), (some b : Option Addr) with
    | some a, some b =>
      if la = 0 ∨ lb = 0 ∨ size = 0 then pure (Value.bool false)
      else if a.block != b.block && (← frozen a) && (← frozen b) then unsupported .addressObserved
      else do
        if a.block != b.block then do
          noView a; noView b
          if ← mayBeOne a b then return Value.bool ((← choose (.extern "sameAddr.stringBytes" 2)) == 1)
        pure (Value.bool (a.block == b.block && a.off < b.off + lb * size && b.off < a.off + la * size))
    | _, _ => pure (Value.bool false)) w = _
  by_cases h0 : la = 0 ∨ lb = 0 ∨ size = 0
  · simp [run_underlying ht, hz, h0]
  · cases kA with
    | zero => exact absurd rfl hkA
    | succ kA =>
      cases hfa : w.frozen? a <;> cases hfae : w.frozen? { block := a.block, off := kA + 1 } <;>
        simp [run_underlying ht, hz, h0, hnb, hnb', frozen, noView, viewAt, mayBeOne, stringish, shape, Sem.run, hsa, hsb, hfa, hfae, hfb, hfe]

theorem ext_overlaps {P : Program} {ng f : Nat} {fn : Func} {tS tR e : TypeId} {size z : Nat} (hf : P.funcs[f]? = some fn) (hname : (fn.name == "runtime.NumGoroutine") = false) (hb : fn.body.isNone = true) (hn : Extern.findNext fn = none)
    (he : Extern.find fn = some (Extern.SlicesOverlaps.overlaps #[tS, tS] #[tR])) (ht : P.underlying tS = some (.slice e)) (hz : ∀ w, (Go.sizeOf e).run P w = .ok size w) : ExtOne P ng f (.overlaps z) := by
  intro args s v s' ρ w vals h hg hr hv
  right
  have hr : extOver args s = .ok v s' := hr
  obtain ⟨l⟩ := vals
  unfold extOver at hr
  split at hr
  · rename_i b o n c z1 b' o' n' c' z2 hxx
    cases hrow : rowOf s.h.get b' with
    | none => rw [hrow] at hr; cases hr
    | some r =>
      obtain ⟨q, rn, leaf, sh, anc⟩ := r
      rw [hrow] at hr
      simp only [] at hr
      cases anc with
      | cons _ _ => cases hr
      | nil =>
        simp only [] at hr
        cases hc : and leaf (and (!(Nat.beq b b')) (and (Nat.ble 1 n) (Nat.ble 1 n'))) with
        | false => rw [hc] at hr; cases hr
        | true =>
          rw [hc] at hr
          simp only [] at hr
          rw [Bool.and_eq_true, Bool.and_eq_true, Bool.and_eq_true, Bool.not_eq_true'] at hc
          obtain ⟨rfl, hne, h1n, h1n'⟩ := hc
          have h1n := Nat.le_of_ble_eq_true h1n
          have h1n' := Nat.le_of_ble_eq_true h1n'
          cases hrow' : rowOf s.h.get b with
          | none => rw [hrow'] at hr; cases hr
          | some r' =>
            rw [hrow'] at hr
            cases hr
            have hbne : b' ≠ b := by intro e; subst e; simp at hne
            cases hv with
            | cons g1 g2 =>
              cases g2 with
              | cons g3 g4 =>
                cases g4
                obtain ⟨p, ad, cp, hp, rfl, hs⟩ := g1
                obtain ⟨p', ad', cp', hp', rfl, hs'⟩ := g3
                have hl1 := rowOf_look hrow
                have hl2 := rowOf_look hrow'
                obtain ⟨p0, ob, e1, e2, arr, ty, fz, rfl, hrw⟩ := h.blk b _ hl2 rfl
                rw [hp] at e1; cases e1
                obtain ⟨p0', ob', e1', e2', arr', ty', fz', rfl, hrw'⟩ := h.blk b' _ hl1 rfl
                rw [hp'] at e1'; cases e1'
                have hapart := h.alone hl1 rfl rfl hp' b _ p hl2 rfl (Ne.symm hbne) hp
                have had : ad = ⟨p.c, p.o + o, none⟩ := by
                  cases c with
                  | some k => exact (hs.ex k rfl).2.2
                  | none => rcases (hs.op rfl).2 with g | g
                            · exact g
                            · have := hs.le; omega
                have had' : ad' = ⟨p'.c, p'.o + o', none⟩ := by
                  cases c' with
                  | some k => exact (hs'.ex k rfl).2.2
                  | none => rcases (hs'.op rfl).2 with g | g
                            · exact g
                            · have := hs'.le; omega
                subst had had'
                have hpos : 0 < arr.size := by
                  have := hrw.tot
                  have h2 := hs.tot
                  have h3 := hs.le
                  have h4 := hs.zpos
                  have : 0 < cp * z1 := Nat.mul_pos (by omega) h4
                  omega
                have hlt : p'.o + o' < p'.tot := by
                  have h2 := hs'.tot
                  have : 0 < cp' * z2 := Nat.mul_pos (by have := hs'.le; omega) hs'.zpos
                  omega
                have htot := hrw'.tot
                have hfree := hrw'.free rfl (p'.o + o') (by omega) hlt
                have hmark := hrw'.mark rfl rfl
                refine ⟨.bool false, w, ?_, ρ, ⟨Post.refl h, Same.refl w⟩, rfl⟩
                rw [run_callFunc_extern hf hname hb hn he]
                have := run_overlaps_apart' P w tS tR e ht size hz ⟨p.c, p.o + o, none⟩ ⟨p'.c, p'.o + o', none⟩ n cp n' cp' hapart ty ty' arr.size arr'.size
                  (by simp [World.shape?, e2]) (by simp [World.shape?, e2']) (by omega)
                  (by simp only [World.frozen?, e2']; simp only [Bool.and_eq_false_iff, decide_eq_false_iff_not]; omega)
                  (by simp only [World.frozen?, e2']; simp only [Bool.and_eq_false_iff, decide_eq_false_iff_not]; rw [htot]; omega)
                rw [this]
                rfl
  · cases hr
end Ev

namespace Ev
open Go

theorem insFind_some {z n i b : Nat} {l x : List C} {s s' : St} {v : V} : ∀ (ms : List (Nat × Nat × List C × List C × List C)), insFind z n i b l x s ms = .ok v s' →
    ∃ r, (n, i, l, x, r) ∈ ms ∧ v = vc (.sl s.nx 0 (n + 1) none z) ∧ s' = St.new ⟨s.h.set b .dead, s.nx⟩ (.row (row0 r)) := by
  intro ms
  induction ms with
  | nil => intro h; cases h
  | cons m ms ih =>
    intro h
    obtain ⟨n', i', l', x', r⟩ := m
    simp only [insFind] at h
    cases hb : and (and (Nat.beq n n') (Nat.beq i i')) (and (sameL l l') (sameL x x')) with
    | true =>
      rw [hb] at h
      cases h
      rw [Bool.and_eq_true, Bool.and_eq_true, Bool.and_eq_true] at hb
      obtain ⟨⟨h1, h2⟩, h3, h4⟩ := hb
      have h1 := Nat.eq_of_beq_eq_true h1
      have h2 := Nat.eq_of_beq_eq_true h2
      have h3 := sameL_eq h3
      have h4 := sameL_eq h4
      subst h1 h2 h3 h4
      exact ⟨r, by simp, rfl, rfl⟩
    | false =>
      rw [hb] at h
      obtain ⟨r', h1, h2⟩ := ih h
      exact ⟨r', List.mem_cons_of_mem _ h1, h2⟩

noncomputable def insRuns (E : Env) (lf n f ng z : Nat) (m : Nat × Nat × List C × List C × List C) : Bool :=
  and (memoRun (runF E lf n f [.c (.sl ng 0 m.1 (some m.1) z), .c (.int .i64 (Int.ofNat m.2.1)), .c (.sl (Nat.succ ng) 0 1 (some 1) z)] (stIns ng (Nat.mul m.1 z) m.2.2.1 m.2.2.2.1)) (Nat.succ m.1) z m.2.2.2.2)
    (memoRun (runF E lf n f [.c (.sl ng 0 m.1 none z), .c (.int .i64 (Int.ofNat m.2.1)), .c (.sl (Nat.succ ng) 0 1 (some 1) z)] (stIns ng (Nat.mul (Nat.succ m.1) z) m.2.2.1 m.2.2.2.1)) (Nat.succ m.1) z m.2.2.2.2)

def rhoI (ng : Nat) (ρ : Mp) (p0 p1 : Place) : Mp := ⟨fun g => if g < ng then ρ g else if g = ng then some p0 else if g = ng + 1 then some p1 else none, ρ.m⟩
theorem rhoI_at (ng : Nat) (ρ : Mp) (p0 p1 : Place) (g : Nat) : rhoI ng ρ p0 p1 g = if g < ng then ρ g else if g = ng then some p0 else if g = ng + 1 then some p1 else none := rfl
theorem rhoI_lt {ng : Nat} {ρ : Mp} {p0 p1 : Place} {g : Nat} (h : g < ng) : rhoI ng ρ p0 p1 g = ρ g := if_pos h
theorem rhoI_0 {ng : Nat} {ρ : Mp} {p0 p1 : Place} : rhoI ng ρ p0 p1 ng = some p0 := by rw [rhoI_at]; rw [if_neg (Nat.lt_irrefl _), if_pos rfl]
theorem rhoI_1 {ng : Nat} {ρ : Mp} {p0 p1 : Place} : rhoI ng ρ p0 p1 (ng + 1) = some p1 := by rw [rhoI_at]; rw [if_neg (by omega), if_neg (by omega), if_pos rfl]
theorem rhoI_dom {ng : Nat} {ρ : Mp} {p0 p1 : Place} {g : Nat} {q : Place} (h : rhoI ng ρ p0 p1 g = some q) : g < ng + 2 := by
  rw [rhoI_at] at h
  split at h
  · omega
  · split at h
    · omega
    · split at h
      · omega
      · cases h

theorem stIns_get {ng rn : Nat} {l x : List C} {b : Nat} {y : Blk} (h : (stIns ng rn l x).h.get b = some y) :
    (b = ng ∧ y = .row ⟨T.ofL l, rn, true, 0, []⟩) ∨ (b = ng + 1 ∧ y = .row (row0 x)) := by
  have h : (((T.nil : T Blk).set (Nat.succ ng) (.row (row0 x))).set ng (.row ⟨T.ofL l, rn, true, 0, []⟩)).get b = some y := h
  rw [T.get_set] at h
  split at h
  · rename_i e; cases h; exact .inl ⟨e, rfl⟩
  · rw [T.get_set] at h
    split at h
    · rename_i e; cases h; exact .inr ⟨e, rfl⟩
    · cases h

theorem memoRun_some {r : VS} {n z : Nat} {cells : List C} (h : memoRun r n z cells = true) :
    ∃ b o cap s1 rw, r = .ok (.w (.c (.sl b o n cap z))) s1 ∧ s1.h.get b = some (.row rw) ∧ rw.leaf = true ∧ readL s1.h.get b o (n * z) = some cells := by
  unfold memoRun at h
  split at h
  · rename_i b o n' cap z' s1
    cases hrow : rowOf s1.h.get b with
    | none => rw [hrow] at h; cases h
    | some rw' =>
      rw [hrow] at h
      simp only [] at h
      cases hc : and rw'.leaf (and (Nat.beq n' n) (Nat.beq z' z)) with
      | false => rw [hc] at h; cases h
      | true =>
        rw [hc] at h
        simp only [] at h
        rw [Bool.and_eq_true, Bool.and_eq_true] at hc
        obtain ⟨h1, h2, h3⟩ := hc
        have h2 := Nat.eq_of_beq_eq_true h2
        have h3 := Nat.eq_of_beq_eq_true h3
        subst h2 h3
        cases hl : readL s1.h.get b o (Nat.mul n' z') with
        | none => rw [hl] at h; cases h
        | some l =>
          rw [hl] at h
          have := sameL_eq h
          subst this
          exact ⟨b, o, cap, s1, rw', rfl, rowOf_look hrow, h1, hl⟩
  · cases h

section
variable {P : Program} {kps : List (Nat × Nat)} {exts : List (Nat × Ext)}

theorem ext_ins (hany : P.follows .mixedOrders = true) (ht : typesOk P = true) (hk : kps.all (fun p => fnOk P p.1) = true) (hx : ∀ p ∈ exts, ExtOne P P.globals.size p.1 p.2) {lf n f : Nat} (z : Nat)
    (hf : (pairT exts .nil).get f = none) (ms : List (Nat × Nat × List C × List C × List C))
    (hlit : ms.all (fun m => and (Nat.ble 1 m.1) (and (m.2.2.1.all plainC) (and (m.2.2.2.1.all plainC) (m.2.2.2.2.all plainC)))) = true)
    (hr : ∀ m ∈ ms, insRuns (envOf P exts kps) lf (n + 1) f P.globals.size z m = true) : ExtOne P P.globals.size f (.ins ms z) := by
  intro args s v s' ρ w vals h hg hr' hv
  left
  have hr' : extIns z ms args s = .ok v s' := hr'
  obtain ⟨vl⟩ := vals
  unfold extIns at hr'
  split at hr'
  · rename_i b o k z1 i b' o' z2 hxx
    cases hrow : rowOf s.h.get b with
    | none => rw [hrow] at hr'; cases hr'
    | some r =>
      obtain ⟨q, rn, leaf, sh, anc⟩ := r
      rw [hrow] at hr'
      simp only [] at hr'
      cases anc with
      | cons _ _ => cases hr'
      | nil =>
        simp only [] at hr'
        cases hc : and leaf (and (!(Nat.beq b b')) (and (Nat.beq z1 z) (Nat.beq z2 z))) with
        | false => rw [hc] at hr'; cases hr'
        | true =>
          rw [hc] at hr'
          simp only [] at hr'
          rw [Bool.and_eq_true, Bool.and_eq_true, Bool.and_eq_true, Bool.not_eq_true'] at hc
          obtain ⟨rfl, hne, hz1, hz2⟩ := hc
          have hz1 := Nat.eq_of_beq_eq_true hz1
          have hz2 := Nat.eq_of_beq_eq_true hz2
          subst z1
          subst z2
          have hbne : b' ≠ b := by intro e; subst e; simp at hne
          cases hl : readL s.h.get b o (Nat.mul k z) with
          | none => rw [hl] at hr'; cases hr'
          | some l =>
            rw [hl] at hr'
            simp only [] at hr'
            cases hxl : readL s.h.get b' o' z with
            | none => rw [hxl] at hr'; cases hr'
            | some x =>
              rw [hxl] at hr'
              simp only [] at hr'
              obtain ⟨cells, hm, rfl, rfl⟩ := insFind_some ms hr'
              have hlits := List.all_eq_true.1 hlit _ hm
              rw [Bool.and_eq_true, Bool.and_eq_true, Bool.and_eq_true] at hlits
              obtain ⟨hk1, hpl, hpx, hpr⟩ := hlits
              have hk1 := Nat.le_of_ble_eq_true hk1
              simp only at hk1 hpl hpx hpr
              have hruns := hr _ hm
              unfold insRuns at hruns
              rw [Bool.and_eq_true] at hruns
              simp only at hruns
              cases hv with
              | cons g1 g2 =>
                cases g2 with
                | cons g3 g4 =>
                  cases g4 with
                  | cons g5 g6 =>
                    cases g6
                    obtain ⟨p, ad, cp, hp, rfl, hs⟩ := g1
                    obtain ⟨p', ad', cp', hp', rfl, hs'⟩ := g5
                    have g3 : _ = Value.int .i64 (Int.ofNat i) := g3
                    subst g3
                    have hl1 := rowOf_look hrow
                    obtain ⟨r', hl2, hr2, hr3⟩ := readL_some hxl
                    obtain ⟨r1, hl1', hr4, hr5⟩ := readL_some hl
                    rw [hl1] at hl1'; cases hl1'
                    obtain ⟨p0, ob, e1, e2, arr, ty, fz, rfl, hrw⟩ := h.blk b _ hl1 rfl
                    rw [hp] at e1; cases e1
                    obtain ⟨p0', ob', e1', e2', arr', ty', fz', rfl, hrw'⟩ := h.blk b' _ hl2 rfl
                    rw [hp'] at e1'; cases e1'
                    have hal := h.alone hl1 rfl rfl hp
                    have hapart := hal b' _ p' hl2 rfl hbne hp'
                    have hcp' := (hs'.ex 1 rfl).1
                    have had' := (hs'.ex 1 rfl).2.2
                    have had : ad = ⟨p.c, p.o + o, none⟩ := by
                      rcases (hs.op rfl).2 with g | g
                      · exact g
                      · have := hs.le; omega
                    subst had had' hcp'
                    obtain ⟨vs, k1, k2, k3⟩ := getL_rel hrw hr4 hr5
                    obtain ⟨vx, x1, x2, x3⟩ := getL_rel hrw' hr2 hr3
                    have hlen : l.length = k * z := by rw [k1.length, k2]; rfl
                    have hlenx : x.length = z := by rw [x1.length, x2]
                    have htot := hrw.tot
                    have htot' := hrw'.tot
                    have hkn := hrw.kn
                    have hkn' := hrw'.kn
                    have hle := hrw.le
                    have hle' := hrw'.le
                    have hst := hs.tot
                    have hsle := hs.le
                    have hzp := hs.zpos
                    have hr4 : o + k * z ≤ rn := hr4
                    have hr2 : o' + z ≤ r'.n := hr2
                    have hkz : k * z ≤ cp * z := Nat.mul_le_mul_right z hsle
                    -- the small state, and what is known of its first row's end
                    have small : ∀ e, k * z ≤ e → e ≤ cp * z → HRel (rhoI P.globals.size ρ ⟨p.c, p.o + o, p.tot, e⟩ ⟨p'.c, p'.o + o', p'.tot, z⟩)
                        (stIns P.globals.size e l x).h.get (stIns P.globals.size e l x).nx w.heap := by
                      intro e he1 he2
                      refine ⟨h.lies, ?_, ?_, ?_, ?_⟩
                      · intro c y q' hy hw hq
                        rcases stIns_get hy with ⟨rfl, rfl⟩ | ⟨rfl, rfl⟩
                        · rw [rhoI_0] at hq; cases hq
                          exact h.away b _ p hl1 rfl hp
                        · cases hw
                      · intro c q' hq
                        exact rhoI_dom hq
                      · intro c y hy _
                        rcases stIns_get hy with ⟨rfl, rfl⟩ | ⟨rfl, rfl⟩
                        · refine ⟨⟨p.c, p.o + o, p.tot, e⟩, _, rhoI_0, e2, arr, ty, fz, rfl, ⟨htot, rfl, ?_, .inl (Nat.zero_le _), ?_, ?_, ?_⟩⟩
                          · show p.o + o + e ≤ p.tot; omega
                          · intro j y hj hy
                            have hy' : (T.ofL l).get j = some y := hy
                            rw [T.get_ofL] at hy'
                            have hjl := (List.getElem?_eq_some_iff.1 hy').1
                            obtain ⟨u, y1, y2⟩ := k1.get hy'
                            refine ⟨u, ?_, plainC_rel (List.all_eq_true.1 hpl y (List.mem_of_getElem? hy')) y2⟩
                            have := k3 j (by show j < k * z; omega)
                            simp only
                            rw [this]; exact y1
                          · intro _ j h1 h2
                            exact hrw.free rfl j (by have : p.o + o ≤ j := h1; omega) h2
                          · intro _ _
                            exact hrw.mark rfl rfl
                        · refine ⟨⟨p'.c, p'.o + o', p'.tot, z⟩, _, rhoI_1, e2', arr', ty', fz', rfl, ⟨htot', ?_, ?_, .inl (Nat.zero_le _), ?_, (fun hh => by cases hh), (fun hh => by cases hh)⟩⟩
                          · show lenA x 0 = z
                            rw [lenA_zero, hlenx]
                          · show p'.o + o' + lenA x 0 ≤ p'.tot
                            rw [lenA_zero, hlenx]; omega
                          · intro j y hj hy
                            have hy' : (T.ofL x).get j = some y := hy
                            rw [T.get_ofL] at hy'
                            have hjl := (List.getElem?_eq_some_iff.1 hy').1
                            obtain ⟨u, y1, y2⟩ := x1.get hy'
                            refine ⟨u, ?_, plainC_rel (List.all_eq_true.1 hpx y (List.mem_of_getElem? hy')) y2⟩
                            have := x3 j (by omega)
                            simp only
                            rw [this]; exact y1
                      · intro c y c' y' q1 q2 hy hw hy' ha hcc hq1 hq2 hcq
                        rcases stIns_get hy with ⟨rfl, rfl⟩ | ⟨rfl, rfl⟩
                        · rcases stIns_get hy' with ⟨rfl, rfl⟩ | ⟨rfl, rfl⟩
                          · exact absurd rfl hcc
                          · rw [rhoI_0] at hq1
                            rw [rhoI_1] at hq2
                            cases hq1
                            cases hq2
                            exact absurd hcq.symm hapart
                        · cases hw
                    have hgok : ∀ e, GOk P.globals.size (rhoI P.globals.size ρ ⟨p.c, p.o + o, p.tot, e⟩ ⟨p'.c, p'.o + o', p'.tot, z⟩) := fun e g hlt => by
                      obtain ⟨pp, q1, q2⟩ := hg g hlt
                      exact ⟨pp, by rw [rhoI_lt hlt]; exact q1, q2⟩
                    -- behind either way
                    have fin : ∀ e, (callFunc f #[.slice (some ⟨p.c, p.o + o, none⟩) k cp, .int .i64 (Int.ofNat i), .slice (some ⟨p'.c, p'.o + o', none⟩) 1 1]).run P w = .ok (.enter f #[.slice (some ⟨p.c, p.o + o, none⟩) k cp, .int .i64 (Int.ofNat i), .slice (some ⟨p'.c, p'.o + o', none⟩) 1 1]) w ∧
                        Calls P f #[.slice (some ⟨p.c, p.o + o, none⟩) k cp, .int .i64 (Int.ofNat i), .slice (some ⟨p'.c, p'.o + o', none⟩) 1 1] w (fun e' w' => ∃ u, e' = .returned u ∧ ∃ bR oR cap s1 rwR, Done (rhoI P.globals.size ρ ⟨p.c, p.o + o, p.tot, e⟩ ⟨p'.c, p'.o + o', p'.tot, z⟩)
                          (stIns P.globals.size e l x) w (.w (.c (.sl bR oR (k + 1) cap z))) s1 u w' ∧ s1.h.get bR = some (.row rwR) ∧ rwR.leaf = true ∧ readL s1.h.get bR oR ((k + 1) * z) = some cells) →
                        (callFunc f #[.slice (some ⟨p.c, p.o + o, none⟩) k cp, .int .i64 (Int.ofNat i), .slice (some ⟨p'.c, p'.o + o', none⟩) 1 1]).run P w = .ok (.enter f #[.slice (some ⟨p.c, p.o + o, none⟩) k cp, .int .i64 (Int.ofNat i), .slice (some ⟨p'.c, p'.o + o', none⟩) 1 1]) w ∧
                        Calls P f #[.slice (some ⟨p.c, p.o + o, none⟩) k cp, .int .i64 (Int.ofNat i), .slice (some ⟨p'.c, p'.o + o', none⟩) 1 1] w (fun e' w' => ∃ u, e' = .returned u ∧ Done ρ s w (vc (.sl s.nx 0 (k + 1) none z)) (St.new ⟨s.h.set b .dead, s.nx⟩ (.row (row0 cells))) u w') := by
                      intro e hh
                      refine ⟨hh.1, Calls.mono hh.2 ?_⟩
                      rintro e' w' ⟨u, rfl, bR, oR, cap, s1, rwR, ⟨ρ1, ⟨hpst, hsm⟩, hu⟩, hbR, hleafR, hlR⟩
                      have hkept : ∀ c, c < w.heap.size → c ≠ p.c → w'.heap[c]? = w.heap[c]? := fun c hc hcp => hpst.frame c hc fun c' y q' hy hw hq => by
                        rcases stIns_get hy with ⟨rfl, rfl⟩ | ⟨rfl, rfl⟩
                        · rw [rhoI_0] at hq
                          cases hq
                          exact fun e => hcp e.symm
                        · cases hw
                      obtain ⟨p2, ad2, cp2, hpb, rfl, hs2⟩ := hu
                      obtain ⟨r'', q1, q2, q3⟩ := readL_some hlR
                      rw [hbR] at q1; cases q1
                      obtain ⟨p3, ob3, u1, u2, arr3, ty3, fz3, rfl, hrow3⟩ := hpst.rel.blk bR _ hbR rfl
                      rw [hpb] at u1; cases u1
                      obtain ⟨vs3, v1, v2, v3⟩ := getL_rel hrow3 q2 q3
                      have hlen3 : cells.length = (k + 1) * z := by rw [v1.length, v2]
                      have hplace : w.heap.size ≤ p2.c ∨ p2.c = p.c := by
                        rcases Nat.lt_or_ge p2.c w.heap.size with g | g
                        · right
                          obtain ⟨b0, y0, p0, y1, y2, y3, y4⟩ := hpst.wrs bR _ p2 hbR hleafR hpb g
                          rcases stIns_get y1 with ⟨rfl, rfl⟩ | ⟨rfl, rfl⟩
                          · rw [rhoI_0] at y3
                            cases y3
                            exact y4.symm
                          · cases y2
                        · exact .inl g
                      have htot3 := hrow3.tot
                      have hkn3 := hrow3.kn
                      have hle3 := hrow3.le
                      have hst3 := hs2.tot
                      have hnone : ρ s.nx = none := h.fresh (Nat.le_refl _)
                      have hbs : b < s.nx := h.dom b p hp
                      obtain ⟨pn, hpn⟩ : ∃ pn : Place, pn = ⟨p2.c, p2.o + oR, p2.tot, (k + 1) * z⟩ := ⟨_, rfl⟩
                      have hlemp : ρ.le (ρ.put s.nx pn) := Mp.le_put hnone
                      have hsz := hpst.sz
                      obtain ⟨hh0, nx0⟩ := s
                      have look : ∀ c, (St.new ⟨hh0.set b .dead, nx0⟩ (.row (row0 cells))).h.get c = if c = nx0 then some (.row (row0 cells)) else if c = b then some .dead else hh0.get c := by
                        intro c
                        show ((hh0.set b .dead).set nx0 (.row (row0 cells))).get c = _
                        rw [T.get_set, T.get_set]
                      have hput : ∀ c, c ≠ nx0 → (ρ.put nx0 pn) c = ρ c := fun c hc => by rw [Mp.put_at, if_neg hc]
                      have hpnew : (ρ.put nx0 pn) nx0 = some pn := by rw [Mp.put_at, if_pos rfl]
                      have hlt : ∀ c y q', hh0.get c = some y → alive y = true → ρ c = some q' → q'.c < w.heap.size := by
                        intro c y q' hy ha hq
                        obtain ⟨q2', o2', t1, t2, _⟩ := h.blk c y hy ha
                        rw [hq] at t1; cases t1
                        exact (Array.getElem?_eq_some_iff.1 t2).1
                      have hrown : (row0 cells).n = (k + 1) * z := by
                        show lenA cells 0 = _
                        rw [lenA_zero, hlen3]
                      refine ⟨_, rfl, ρ.put nx0 pn, ⟨⟨Snap.le_refl _, fun _ _ _ h => .inl h, fun c hc => hput c (by have : c < nx0 := hc; omega), Nat.le_succ nx0, ⟨fun c i v hm => by
                          have hc : c ≠ p.c := fun e => h.away b _ p hl1 rfl hp i v (by rw [← e]; exact hm)
                          rw [hkept c (h.lies.lt hm) hc]
                          exact h.lies c i v hm, fun c y q' hy hw hq => by
                          rw [look] at hy
                          by_cases e : c = nx0
                          · rw [if_pos e] at hy; cases hy; cases hw
                          · rw [if_neg e] at hy
                            rw [hput c e] at hq
                            by_cases e2 : c = b
                            · rw [if_pos e2] at hy; cases hy; cases hw
                            · rw [if_neg e2] at hy
                              exact h.away c y q' hy hw hq, ?_, ?_, ?_⟩, hsz, ?_, ?_, ?_⟩, hsm⟩, ⟨pn, ad2, cp2, hpnew, rfl, ?_⟩⟩
                      · intro c q' hq
                        show c < nx0 + 1
                        by_cases e : c = nx0
                        · omega
                        · rw [hput c e] at hq
                          have := h.dom c q' hq
                          have : c < nx0 := this
                          omega
                      · intro c y hy ha
                        rw [look] at hy
                        by_cases e : c = nx0
                        · rw [if_pos e] at hy
                          cases hy
                          subst e
                          refine ⟨pn, _, hpnew, by rw [hpn]; exact u2, arr3, ty3, fz3, rfl, ?_⟩
                          subst hpn
                          refine ⟨htot3, hrown, by rw [hrown]; simp only; omega, .inl (Nat.zero_le _), ?_, (fun hh => by cases hh), (fun hh => by cases hh)⟩
                          intro j y hj hy
                          rw [hrown] at hj
                          have hy' : (T.ofL cells).get j = some y := hy
                          rw [T.get_ofL] at hy'
                          obtain ⟨u, y1, y2⟩ := v1.get hy'
                          refine ⟨u, ?_, plainC_rel (List.all_eq_true.1 hpr y (List.mem_of_getElem? hy')) y2⟩
                          rw [v3 j hj]; exact y1
                        · rw [if_neg e] at hy
                          by_cases e3 : c = b
                          · rw [if_pos e3] at hy; cases hy; cases ha
                          · rw [if_neg e3] at hy
                            obtain ⟨q', o2, t1, t2, t3⟩ := h.blk c y hy ha
                            have hne2 := hal c y q' hy ha e3 t1
                            refine ⟨q', o2, by rw [hput c e]; exact t1, ?_, t3.mono hlemp⟩
                            rw [hkept q'.c (Array.getElem?_eq_some_iff.1 t2).1 hne2]; exact t2
                      · intro c y c' y' q1 q2 hy hw hy' ha hcc hq1 hq2 hcq
                        rw [look] at hy hy'
                        by_cases e : c = nx0
                        · rw [if_pos e] at hy; cases hy; cases hw
                        · rw [if_neg e] at hy
                          rw [hput c e] at hq1
                          by_cases e3 : c = b
                          · rw [if_pos e3] at hy; cases hy; cases hw
                          · rw [if_neg e3] at hy
                            have hne2 := hal c y q1 hy (wr_alive hw) e3 hq1
                            have hlt2 := hlt c y q1 hy (wr_alive hw) hq1
                            by_cases e' : c' = nx0
                            · subst e'
                              rw [hpnew] at hq2; cases hq2
                              rw [hpn] at hcq
                              simp only at hcq
                              rcases hplace with g | g
                              · omega
                              · omega
                            · rw [if_neg e'] at hy'
                              rw [hput c' e'] at hq2
                              by_cases e3' : c' = b
                              · rw [if_pos e3'] at hy'; cases hy'; cases ha
                              · rw [if_neg e3'] at hy'
                                exact h.apart c y c' y' q1 q2 hy hw hy' ha hcc hq1 hq2 hcq
                      · intro c hc hno
                        refine hkept c hc fun hcp => ?_
                        exact hno b _ p hl1 rfl hp hcp.symm
                      · intro c y q' hy hw hq hc
                        rw [look] at hy
                        by_cases e : c = nx0
                        · rw [if_pos e] at hy; cases hy; cases hw
                        · rw [if_neg e] at hy
                          rw [hput c e] at hq
                          by_cases e3 : c = b
                          · rw [if_pos e3] at hy; cases hy; cases hw
                          · rw [if_neg e3] at hy
                            exact ⟨c, y, q', hy, hw, hq, rfl⟩
                      · intro c y q' hy ha hq hc
                        rw [look] at hy
                        by_cases e : c = nx0
                        · subst e
                          rw [hpnew] at hq; cases hq
                          rw [hpn] at hc ⊢
                          simp only at hc
                          rcases hplace with g | g
                          · omega
                          · exact ⟨b, _, p, hl1, rfl, hp, g.symm⟩
                        · rw [if_neg e] at hy
                          rw [hput c e] at hq
                          by_cases e3 : c = b
                          · rw [if_pos e3] at hy; cases hy; cases ha
                          · rw [if_neg e3] at hy
                            exact ⟨c, y, q', hy, ha, hq, rfl⟩
                      · subst hpn
                        refine ⟨hs2.zpos, hs2.le, fun kk hkk => (by cases hkk), fun _ => ⟨?_, ?_⟩, ?_, ?_⟩
                        · simp only
                          have := Nat.mul_le_mul_right z hs2.le
                          omega
                        · simp only [Nat.add_zero]
                          cases cap with
                          | some kk => exact .inl (hs2.ex kk rfl).2.2
                          | none => exact (hs2.op rfl).2
                        · simp only; omega
                        · simp only; omega
                    have hvx : ∀ (ρ0 : Mp), ρ0 (P.globals.size + 1) = some ⟨p'.c, p'.o + o', p'.tot, z⟩ → CRel ρ0 (.sl (Nat.succ P.globals.size) 0 1 (some 1) z) (.slice (some ⟨p'.c, p'.o + o', none⟩) 1 1) := fun ρ0 h0 =>
                      ⟨_, _, _, h0, rfl, ⟨hzp, Nat.le_refl _, fun kk hkk => (by cases hkk; exact ⟨rfl, by show 0 + 1 * z ≤ z; omega, rfl⟩), fun hh => (by cases hh), by have := hs'.tot; show p'.o + o' + 0 + 1 * z ≤ p'.tot; omega, by show 0 + 1 * z ≤ z; omega⟩⟩
                    by_cases hroom : cp = k
                    · obtain ⟨bR, oR, cap, s1, rwR, hs1, hb1, hl1R, hrd⟩ := memoRun_some hruns.1
                      refine fin (k * z) ?_
                      have := run_calls' hany ht hk hx (lf := lf) (n := n) hf (small (k * z) (Nat.le_refl _) hkz) (hgok _) hs1 (vals := #[.slice (some ⟨p.c, p.o + o, none⟩) k cp, .int .i64 (Int.ofNat i), .slice (some ⟨p'.c, p'.o + o', none⟩) 1 1])
                        (.cons ⟨_, _, _, rhoI_0, rfl, ⟨hzp, hsle, fun kk hkk => (by cases hkk; exact ⟨hroom, by show 0 + k * z ≤ k * z; omega, rfl⟩), fun hh => (by cases hh), by show p.o + o + 0 + cp * z ≤ p.tot; omega, by show 0 + k * z ≤ k * z; omega⟩⟩ (.cons rfl (.cons (hvx _ rhoI_1) .nil)))
                      exact ⟨this.1, Calls.mono this.2 fun e' w' ⟨u, he, hd⟩ => ⟨u, he, bR, oR, cap, s1, rwR, hd, hb1, hl1R, hrd⟩⟩
                    · obtain ⟨bR, oR, cap, s1, rwR, hs1, hb1, hl1R, hrd⟩ := memoRun_some hruns.2
                      have hcp : k + 1 ≤ cp := by omega
                      have hcpz : (k + 1) * z ≤ cp * z := Nat.mul_le_mul_right z hcp
                      refine fin ((k + 1) * z) ?_
                      have := run_calls' hany ht hk hx (lf := lf) (n := n) hf (small ((k + 1) * z) (Nat.mul_le_mul_right z (Nat.le_succ k)) hcpz) (hgok _) hs1 (vals := #[.slice (some ⟨p.c, p.o + o, none⟩) k cp, .int .i64 (Int.ofNat i), .slice (some ⟨p'.c, p'.o + o', none⟩) 1 1])
                        (.cons ⟨_, _, _, rhoI_0, rfl, ⟨hzp, hsle, fun kk hkk => (by cases hkk), fun _ => ⟨by show (k + 1) * z ≤ 0 + cp * z; omega, .inl rfl⟩, by show p.o + o + 0 + cp * z ≤ p.tot; omega, by show 0 + k * z ≤ (k + 1) * z; rw [Nat.zero_add]; exact Nat.mul_le_mul_right z (Nat.le_succ k)⟩⟩ (.cons rfl (.cons (hvx _ rhoI_1) .nil)))
                      exact ⟨this.1, Calls.mono this.2 fun e' w' ⟨u, he, hd⟩ => ⟨u, he, bR, oR, cap, s1, rwR, hd, hb1, hl1R, hrd⟩⟩
  · cases hr'
end
end Ev
