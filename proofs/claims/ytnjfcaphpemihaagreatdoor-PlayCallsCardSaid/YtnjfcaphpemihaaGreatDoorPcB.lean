import Derived.Test.YtnjfcaphpemihaaGreatDoorPcA
import Derived.Test.YtnjfcaphpemihaaGreatDoorEwG
import Derived.Test.YtnjfcaphpemihaaGreatDoorEwL
namespace Pc
open Go Go.Proofs Ev
set_option linter.unusedVariables false
set_option linter.unusedSimpArgs false
set_option maxRecDepth 100000
def Str1 (x : List D) : Prop := ∃ l, x = [.str (Str.ofL l)]
def Str2 (x : List D) : Prop := ∃ l r, x = [.str (Str.ofL l), .str (Str.ofL r)]
structure Good (z : Nat) (p : List D → Prop) (d : D) : Prop where
  el : IsEls z d
  all : ∀ x ∈ els d, p x
  len : (els d).length ≤ maxLen
def GoodC (x : List D) : Prop := ∃ n argv vars inp, x = [.int .i64 n, argv, vars, .str (Str.ofL inp)] ∧ Good 1 Str1 argv ∧ Good 2 Str2 vars ∧ -9223372036854775808 ≤ n ∧ n ≤ 9223372036854775807
def GoodO (o : List D) : Prop := ∃ e st ot fl vr ca, o = [.int .i64 e, .int .i64 st, .str (Str.ofL ot), fl, vr, ca] ∧ Good 2 Str2 fl ∧ Good 2 Str2 vr ∧ Good 4 GoodC ca
def callsO (o : List D) : List (List D) := els (o.getD 5 .nils)
def allD (os : List (List D)) : List (List D) := os.flatMap callsO
theorem allD_take (os : List (List D)) {i : Nat} {o : List D} (h : os[i]? = some o) : allD (os.take (i + 1)) = allD (os.take i) ++ callsO o := by
  have hi := (List.getElem?_eq_some_iff.1 h).1
  have : os.take (i + 1) = os.take i ++ [o] := by rw [List.take_add_one, h]; rfl
  rw [this]; simp [allD]
theorem allD_le (os : List (List D)) (i : Nat) : (allD (os.take i)).length ≤ (allD os).length := by
  have := congrArg (fun l => (allD l).length) (List.take_append_drop i os)
  simp only [allD, List.flatMap_append, List.length_append] at this ⊢
  omega
theorem ref_all (X : T Ext) (hX : (En X).ext.get 16 = none) (d : D) (s : St) (hd : IsEls 6 d) (ho : ∀ o ∈ els d, GoodO o) (hl : (els d).length ≤ maxLen) (hn : (allD (els d)).length ≤ 1000) (K : V → St → Prop)
    (hK : ∀ c s', SlAt s' c 4 (allD (els d)) → K (vc c) s') : goC (En X) 16 [.c d.toC] s K := by
  refine goC_body hX (kp16 X) (fn16 X) rfl (by kernel_rfl) ?_
  simp only [zEV, Nat.reduceShiftRight, Nat.reduceMod, Nat.reduceEqDiff, Nat.reduceAdd, ↓reduceIte, reduceCtorEq]
  refine go_loop (goL_inv (fun n a s' => ∃ i c, n = (els d).length - i ∧ i ≤ (els d).length ∧ Has a 0 (vc d.toC) ∧ Has a 3 (vc c) ∧ Has a 4 (vc (.int .i64 (Int.ofNat i))) ∧ SlAt s' c 4 (allD ((els d).take i))) (n := (els d).length)
    ⟨0, .nils, rfl, Nat.zero_le _, ⟨rfl, rfl⟩, ⟨rfl, rfl⟩, ⟨rfl, rfl⟩, SlAt.nil s 4⟩ ?_)
  rintro n a s' ⟨i, c, rfl, hi, ⟨g0, k0⟩, ⟨g3, k3⟩, ⟨g4, k4⟩, hsl⟩
  have hlen := len_els (look := s'.h.get) (us22 X) hd
  by_cases hlt : i < (els d).length
  · obtain ⟨o, hoi⟩ : ∃ o, (els d)[i]? = some o := ⟨_, List.getElem?_eq_getElem hlt⟩
    have hix := index_els (us22 X) (sz28 X) hd hoi
    obtain ⟨e, st, ot, fl, vr, ca, rfl, _, _, hca⟩ := ho o (List.mem_of_getElem? hoi)
    have hca := hca.el
    have hle := allD_le (els d) (i + 1)
    rw [allD_take (els d) hoi] at hle
    obtain ⟨c', s2, happ, hsl2, _⟩ := app_els (el26 X) ti38.1 hsl hca (by decide) (by
      rw [ti38.2]
      have : (els ca).length = (callsO [.int .i64 e, .int .i64 st, .str (Str.ofL ot), fl, vr, ca]).length := rfl
      rw [List.length_append, ← this] at hle
      have : maxBytes = 140737488355328 := rfl
      omega)
    have hlt' : (Int.ofNat i < Int.ofNat (els d).length) = True := by simpa using Int.ofNat_lt.2 hlt
    have hml : maxLen = 9223372036854775807 := rfl
    simp only [zEV, Nat.reduceShiftRight, Nat.reduceMod, Nat.reduceEqDiff, Nat.reduceAdd, ↓reduceIte, reduceCtorEq, g0, k0, g3, k3, g4, k4, hlen, hix, hlt', fD_28_5, ld26, ldC, us26, happ, nat_succ (show i < 9223372036854775807 by omega)]
    refine ⟨_, ?_, i + 1, c', rfl, hlt, ⟨?_, ?_⟩, ⟨?_, ?_⟩, ⟨?_, ?_⟩, ?_⟩
    all_goals first | (simp only [zEA, Nat.reduceShiftRight, Nat.reduceMod, Nat.reduceEqDiff, Nat.reduceAdd, ↓reduceIte, reduceCtorEq, g0, k0]; done) | skip
    · omega
    · rw [allD_take (els d) hoi]; exact hsl2
  · have hlt' : (Int.ofNat i < Int.ofNat (els d).length) = False := by simpa using fun h => hlt (Int.ofNat_lt.1 h)
    simp only [zEV, Nat.reduceShiftRight, Nat.reduceMod, Nat.reduceEqDiff, Nat.reduceAdd, ↓reduceIte, reduceCtorEq, g0, k0, g3, k3, g4, k4, hlen, hlt']
    have : i = (els d).length := by omega
    subst this
    rw [List.take_length] at hsl
    exact hK c s' hsl
end Pc
