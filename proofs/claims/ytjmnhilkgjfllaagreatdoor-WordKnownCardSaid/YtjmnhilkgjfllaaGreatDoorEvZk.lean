import Derived.Test.YtjmnhilkgjfllaaGreatDoorEvZj
import Derived.Lib.Overlaps
namespace Ev
open Go

/-- a row without ancestors that may be written lies apart from all others -/
theorem HRel.alone {ρ : Mp} {look : Look} {nx : Nat} {H : Array Obj} (h : HRel ρ look nx H) {b : Nat} {r : Row} (hb : look b = some (.row r)) (hl : r.leaf = true) (ha : r.anc = []) {p : Place} (hp : ρ b = some p) :
    ∀ b' x' p', look b' = some x' → alive x' = true → b' ≠ b → ρ b' = some p' → p'.c ≠ p.c := by
  intro b' x' p' hx hx2 hne hp' hc
  obtain ⟨r1, r2, e1, _, _, _, e5⟩ := h.apart b _ b' x' p p' hb hl hx hx2 hne hp hp' hc.symm
  cases e1
  rw [ha] at e5
  cases e5

theorem rowOf_look {look : Look} {b : Nat} {r : Row} (h : rowOf look b = some r) : look b = some (.row r) := by
  unfold rowOf at h
  cases hx : look b with
  | none => rw [hx] at h; cases h
  | some y =>
    rw [hx] at h
    cases y <;> first | (cases h; rfl) | cases h

theorem run_overlaps_apart' (P : Program) (w : World) (tS tR e : TypeId) (ht : P.underlying tS = some (.slice e)) (size : Nat) (hz : ∀ w, (Go.sizeOf e).run P w = .ok size w)
    (a b : Addr) (la ca lb cb : Nat) (hne : a.block ≠ b.block) (tA tB : TypeId) (kA kB : Nat)
    (hsa : w.shape? a.block = some (tA, kA)) (hsb : w.shape? b.block = some (tB, kB)) (hkA : kA ≠ 0)
    (hfb : w.frozen? b = false) (hfe : w.frozen? { block := b.block, off := kB } = false) :
    (Extern.SlicesOverlaps.overlaps #[tS, tS] #[tR] #[.slice (some a) la ca, .slice (some b) lb cb]).run P w = .ok (.bool false) w := by
  have hnb : (a.block != b.block) = true := by simpa using hne
  have hnb' : (a.block == b.block) = false := by simpa using hne
  change Sem.run P (α := Value) (do
    let some t := (#[tS, tS] : Array TypeId)[0]? | stuck "slices.overlaps: no parameter types"
    let .slice elem ← underlying t | stuck "slices.overlaps: slice type expected"
    let size ← sizeOf elem
    match (some a : Option Addr), (some b : Option Addr) with
    | some a, some b =>
      if la = 0 ∨ lb = 0 ∨ size = 0 then pure (Value.bool false)
      else if a.block != b.block && (← frozen a) && (← frozen b) then unsupported .addressObserved
      else do
        if a.block != b.block then do
          noView a; noView b
          if ← mayBeOne a b then return Value.bool ((← choose (.extern "sameAddr.stringBytes" 2)) == 1)
        pure (Value.bool (a.block == b.block && a.off < b.off + lb * size && b.off < a.off + la * size))
    | _, _ => pure (Value.bool false)) w = _
  by_cases h0 : la = 0 ∨ lb = 0 ∨ size = 0
  · simp [run_underlying ht, hz, h0]
  · cases kA with
    | zero => exact absurd rfl hkA
    | succ kA =>
      cases hfa : w.frozen? a <;> cases hfae : w.frozen? { block := a.block, off := kA + 1 } <;>
        simp [run_underlying ht, hz, h0, hnb, hnb', frozen, noView, viewAt, mayBeOne, stringish, shape, Sem.run, hsa, hsb, hfa, hfae, hfb, hfe]

theorem ext_overlaps {P : Program} {ng f : Nat} {fn : Func} {tS tR e : TypeId} {size z : Nat} (hf : P.funcs[f]? = some fn) (hname : (fn.name == "runtime.NumGoroutine") = false) (hb : fn.body.isNone = true) (hn : Extern.findNext fn = none)
    (he : Extern.find fn = some (Extern.SlicesOverlaps.overlaps #[tS, tS] #[tR])) (ht : P.underlying tS = some (.slice e)) (hz : ∀ w, (Go.sizeOf e).run P w = .ok size w) : ExtOne P ng f (.overlaps z) := by
  intro args s v s' ρ w vals h hg hr hv
  right
  have hr : extOver args s = .ok v s' := hr
  obtain ⟨l⟩ := vals
  unfold extOver at hr
  split at hr
  · rename_i b o n c z1 b' o' n' c' z2 hxx
    cases hrow : rowOf s.h.get b' with
    | none => rw [hrow] at hr; cases hr
    | some r =>
      obtain ⟨q, rn, leaf, sh, anc⟩ := r
      rw [hrow] at hr
      simp only [] at hr
      cases anc with
      | cons _ _ => cases hr
      | nil =>
        simp only [] at hr
        cases hc : and leaf (and (!(Nat.beq b b')) (and (Nat.ble 1 n) (Nat.ble 1 n'))) with
        | false => rw [hc] at hr; cases hr
        | true =>
          rw [hc] at hr
          simp only [] at hr
          rw [Bool.and_eq_true, Bool.and_eq_true, Bool.and_eq_true, Bool.not_eq_true'] at hc
          obtain ⟨rfl, hne, h1n, h1n'⟩ := hc
          have h1n := Nat.le_of_ble_eq_true h1n
          have h1n' := Nat.le_of_ble_eq_true h1n'
          cases hrow' : rowOf s.h.get b with
          | none => rw [hrow'] at hr; cases hr
          | some r' =>
            rw [hrow'] at hr
            cases hr
            have hbne : b' ≠ b := by intro e; subst e; simp at hne
            cases hv with
            | cons g1 g2 =>
              cases g2 with
              | cons g3 g4 =>
                cases g4
                obtain ⟨p, ad, cp, hp, rfl, hs⟩ := g1
                obtain ⟨p', ad', cp', hp', rfl, hs'⟩ := g3
                have hl1 := rowOf_look hrow
                have hl2 := rowOf_look hrow'
                obtain ⟨p0, ob, e1, e2, arr, ty, fz, rfl, hrw⟩ := h.blk b _ hl2 rfl
                rw [hp] at e1; cases e1
                obtain ⟨p0', ob', e1', e2', arr', ty', fz', rfl, hrw'⟩ := h.blk b' _ hl1 rfl
                rw [hp'] at e1'; cases e1'
                have hapart := h.alone hl1 rfl rfl hp' b _ p hl2 rfl (Ne.symm hbne) hp
                have had : ad = ⟨p.c, p.o + o, none⟩ := by
                  cases c with
                  | some k => exact (hs.ex k rfl).2.2
                  | none => rcases (hs.op rfl).2 with g | g
                            · exact g
                            · have := hs.le; omega
                have had' : ad' = ⟨p'.c, p'.o + o', none⟩ := by
                  cases c' with
                  | some k => exact (hs'.ex k rfl).2.2
                  | none => rcases (hs'.op rfl).2 with g | g
                            · exact g
                            · have := hs'.le; omega
                subst had had'
                have hpos : 0 < arr.size := by
                  have := hrw.tot
                  have h2 := hs.tot
                  have h3 := hs.le
                  have h4 := hs.zpos
                  have : 0 < cp * z1 := Nat.mul_pos (by omega) h4
                  omega
                have hlt : p'.o + o' < p'.tot := by
                  have h2 := hs'.tot
                  have : 0 < cp' * z2 := Nat.mul_pos (by have := hs'.le; omega) hs'.zpos
                  omega
                have htot := hrw'.tot
                have hfree := hrw'.free rfl (p'.o + o') (by omega) hlt
                have hmark := hrw'.mark rfl rfl
                refine ⟨.bool false, w, ?_, ρ, ⟨Post.refl h, Same.refl w⟩, rfl⟩
                rw [run_callFunc_extern hf hname hb hn he]
                have := run_overlaps_apart' P w tS tR e ht size hz ⟨p.c, p.o + o, none⟩ ⟨p'.c, p'.o + o', none⟩ n cp n' cp' hapart ty ty' arr.size arr'.size
                  (by simp [World.shape?, e2]) (by simp [World.shape?, e2']) (by omega)
                  (by simp only [World.frozen?, e2']; simp only [Bool.and_eq_false_iff, decide_eq_false_iff_not]; omega)
                  (by simp only [World.frozen?, e2']; simp only [Bool.and_eq_false_iff, decide_eq_false_iff_not]; rw [htot]; omega)
                rw [this]
                rfl
  · cases hr
end Ev
