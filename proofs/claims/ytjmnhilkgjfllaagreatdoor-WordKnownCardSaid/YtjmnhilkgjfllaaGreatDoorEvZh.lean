import Derived.Test.YtjmnhilkgjfllaaGreatDoorEvZg
import Derived.Lib.Join
set_option linter.unusedVariables false
set_option linter.unusedSimpArgs false
namespace Ev
open Go

theorem joinL_ok {ρ : Mp} (sep : ByteArray) : ∀ (l : List C) (vs : List Value) (acc : List UInt8) (z : Str), LRel ρ l vs → joinL (Str.of sep) l (Str.ofL acc) = some z →
    ∃ xs : List ByteArray, vs = xs.map Value.string ∧ z = Str.ofL (acc ++ Lib.joinTail sep.data.toList (xs.map (·.data.toList))) := by
  intro l
  induction l with
  | nil =>
    intro vs acc z hl h
    cases hl
    simp only [joinL, Option.some.injEq] at h
    exact ⟨[], rfl, by rw [← h]; simp [Lib.joinTail]⟩
  | cons c l ih =>
    intro vs acc z hl h
    cases hl with
    | cons h1 h2 =>
      cases c <;> simp only [joinL, reduceCtorEq] at h
      obtain ⟨bs, rfl, rfl⟩ := h1
      rw [Str.of_eq, Str.of_eq, Str.app_ofL, Str.app_ofL] at h
      rw [← Str.of_eq] at h
      obtain ⟨xs, rfl, rfl⟩ := ih _ _ _ h2 h
      exact ⟨bs :: xs, rfl, by simp [Lib.joinTail]⟩

theorem joinC_ok {ρ : Mp} (sep : ByteArray) (l : List C) (vs : List Value) (z : Str) (hl : LRel ρ l vs) (h : joinC (Str.of sep) l = some z) :
    ∃ xs : List ByteArray, vs = xs.map Value.string ∧ z = Str.ofL (Lib.join (xs.map (·.data.toList)) sep.data.toList) := by
  cases hl with
  | nil =>
    simp only [joinC, Option.some.injEq] at h
    exact ⟨[], rfl, by rw [← h]; rfl⟩
  | cons h1 h2 =>
    rename_i c v l vs
    cases c <;> simp only [joinC, reduceCtorEq] at h
    obtain ⟨bs, rfl, rfl⟩ := h1
    rw [Str.of_eq bs] at h
    obtain ⟨xs, rfl, rfl⟩ := joinL_ok sep l vs _ z h2 h
    exact ⟨bs :: xs, rfl, by rw [List.map_cons, Lib.join_cons]⟩

theorem ext_join {P : Program} {ng f : Nat} (hin : ∀ args w, (callFunc f args).run P w = .ok (.enter f args) w)
    (hnone : ∀ (a : Option Addr) (c : Nat) (sep : ByteArray) (w : World), Calls P f #[.slice a 0 c, .string sep] w fun e w' => e = .returned (.string ⟨#[]⟩) ∧ w' = w)
    (hmany : ∀ (bk o c : Nat) (xs : List ByteArray) (sep : ByteArray) (w : World), (∀ (j : Nat) x, xs[j]? = some x → w.cell? ⟨bk, o + j, none⟩ = some (.string x)) → bk < w.heap.size → xs.length ≤ 140737488355328 → xs.length ≤ c →
      (Lib.join (xs.map (·.data.toList)) sep.data.toList).length ≤ 140737488355328 →
      Calls P f #[.slice (some ⟨bk, o, none⟩) xs.length c, .string sep] w fun e w' => e = .returned (.string ⟨(Lib.join (xs.map (·.data.toList)) sep.data.toList).toArray⟩) ∧ RowKit.Below w.heap.size w w') :
    ExtOne P ng f .join := by
  intro args s v s' ρ w vals h hg hr hv
  left
  refine ⟨hin _ _, ?_⟩
  have hr : extJoin args s = .ok v s' := hr
  obtain ⟨l⟩ := vals
  unfold extJoin at hr
  split at hr
  · rename_i x sep
    cases hv with
    | cons h1 h2 =>
      cases h2 with
      | cons h3 h4 =>
        cases h4
        obtain ⟨sb, rfl, rfl⟩ := h3
        split at hr
        · have h1 : _ = Value.slice none 0 0 := h1
          subst h1
          cases hr
          refine Calls.mono (hnone none 0 sb w) ?_
          rintro e w' ⟨rfl, rfl⟩
          exact ⟨_, rfl, ρ, ⟨Post.refl h, Same.refl _⟩, ⟨⟨#[]⟩, rfl, rfl⟩⟩
        · rename_i b o n cap z
          cases hb : and (Nat.beq z 1) (Nat.ble n 140737488355328) with
          | false => rw [hb] at hr; cases hr
          | true =>
            rw [hb] at hr
            simp only [] at hr
            rw [Bool.and_eq_true] at hb
            have hz : z = 1 := Nat.eq_of_beq_eq_true hb.1
            have hn : n ≤ 140737488355328 := Nat.le_of_ble_eq_true hb.2
            subst hz
            cases hl : readL s.h.get b o n with
            | none => rw [hl] at hr; cases hr
            | some cs =>
              rw [hl] at hr
              simp only [] at hr
              unfold joinOk at hr
              cases hj : joinC (Str.of sb) cs with
              | none => rw [hj] at hr; cases hr
              | some zz =>
                rw [hj] at hr
                simp only [] at hr
                cases hlen : Nat.ble zz.len 140737488355328 with
                | false => rw [hlen] at hr; cases hr
                | true =>
                  rw [hlen] at hr
                  cases hr
                  have hlen := Nat.le_of_ble_eq_true hlen
                  obtain ⟨p, ad, cp, hp, rfl, hs⟩ := h1
                  obtain ⟨vs, k1, k2, k3, k4⟩ := readL_rel h.sees hl hp
                  obtain ⟨xs, rfl, rfl⟩ := joinC_ok sb cs vs zz k1 hj
                  have hxn : xs.length = n := by simpa using k2
                  by_cases h0 : n = 0
                  · subst h0
                    have hx0 : xs = [] := List.length_eq_zero_iff.1 hxn
                    subst hx0
                    refine Calls.mono (hnone (some ad) cp sb w) ?_
                    rintro e w' ⟨rfl, rfl⟩
                    exact ⟨_, rfl, ρ, ⟨Post.refl h, Same.refl _⟩, ⟨⟨#[]⟩, rfl, rfl⟩⟩
                  · have had : ad = ⟨p.c, p.o + o, none⟩ := by
                      cases cap with
                      | some k => exact (hs.ex k rfl).2.2
                      | none =>
                        rcases (hs.op rfl).2 with g | g
                        · exact g
                        · have := hs.le; omega
                    subst had
                    have hbk : p.c < w.heap.size := by
                      obtain ⟨r, hr1, _⟩ := readL_some hl
                      obtain ⟨p', o', g1, g2, _⟩ := h.blk b _ hr1 rfl
                      rw [hp] at g1; cases g1
                      exact (Array.getElem?_eq_some_iff.1 g2).1
                    have := hmany p.c (p.o + o) cp xs sb w (fun j x hx => by
                      have := k4 w rfl j (.string x) (by simp [hx])
                      rw [← this]
                      unfold Addr.add
                      by_cases hj : j = 0
                      · subst hj; simp
                      · simp [hj]) hbk (by omega) (by have := hs.le; omega) hlen
                    rw [hxn] at this
                    refine Calls.mono this ?_
                    rintro e w' ⟨rfl, hb⟩
                    have hk : ∀ c, c < w.heap.size → w'.heap[c]? = w.heap[c]? := fun c hc => hb.block c hc
                    exact ⟨_, rfl, ρ, ⟨⟨fun _ _ => rfl, Nat.le_refl _, HRel.stays h hk, hb.size, fun c hc _ => hk c hc, fun b x p h1 h2 h3 _ => ⟨b, x, p, h1, h2, h3, rfl⟩, fun b x p h1 h2 h3 _ => ⟨b, x, p, h1, h2, h3, rfl⟩⟩, ⟨hb.os, hb.output⟩⟩,
                      ⟨⟨(Lib.join (xs.map (·.data.toList)) sb.data.toList).toArray⟩, rfl, by rw [Str.of_eq]⟩⟩
        · cases hr
  · cases hr
end Ev
