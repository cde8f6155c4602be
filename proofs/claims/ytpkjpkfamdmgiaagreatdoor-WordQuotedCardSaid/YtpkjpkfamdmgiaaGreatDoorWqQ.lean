import Derived.Test.YtpkjpkfamdmgiaaGreatDoorWqO
import Derived.Test.YtpkjpkfamdmgiaaGreatDoorEwL
namespace Ws
open Go Go.Proofs Ev Wq
set_option linter.unusedVariables false
set_option linter.unusedSimpArgs false
set_option linter.unnecessarySimpa false
set_option maxRecDepth 100000
theorem str_eq_self (z : Str) : z.eq z = true := by
  unfold Str.eq
  simp
theorem b_selfneq (E : Env) (t : Nat) (ox oy : Operand) (z : Str) : Ev.binOp E .neq t ox oy (.c (.str z)) (.c (.str z)) = some (vc (.bool false)) := by
  simp only [Ev.binOp, strOp, str_eq_self, retC_some]; rfl
theorem b_selfeql (E : Env) (t : Nat) (ox oy : Operand) (z : Str) : Ev.binOp E .eql t ox oy (.c (.str z)) (.c (.str z)) = some (vc (.bool true)) := by
  simp only [Ev.binOp, strOp, str_eq_self, retC_some]
theorem texts12 (X : T Ext) (hX : (En X).ext.get 12 = none) (ds : List Str) (hn : ds.length ≤ 100000) (s : St) (K : V → St → Prop) (hK : ∀ s', K (.w (.c (.bool true))) s') :
    goC (En X) 12 [.c (slD 1 (tsL ds)).toC, .c (slD 1 (tsL ds)).toC] s K := by
  refine goC_body hX (kp12 X) (fn12 X) rfl (by kernel_rfl) ?_
  have hres : Tryz.f12.results.toList = [.tmp 4] := rfl
  have hie : IsEls 1 (slD 1 (tsL ds)) := isEls_slD (tsL_one ds)
  have hlen : ∀ look, len (En X) 25 look (slD 1 (tsL ds)).toC = some ds.length := fun look => by rw [len_els (us25 X) hie, els_slD]; unfold tsL; rw [List.length_map]
  have hixf : ∀ {j : Nat} {z : Str}, ds[j]? = some z → indexAddr (En X) 25 (slD 1 (tsL ds)).toC (Int.ofNat j) = some (.dp [.str z] 0) := fun {j z} h => index_els (us25 X) (sz9 X) hie (by rw [els_slD]; unfold tsL; exact getD_map h)
  generalize (slD 1 (tsL ds)).toC = dc at *
  have e0 : (Int.ofNat ds.length = Int.ofNat ds.length) = True := eq_self _
  simp only [zEV, Nat.reduceShiftRight, Nat.reduceMod, Nat.reduceEqDiff, Nat.reduceAdd, ↓reduceIte, reduceCtorEq, hlen, e0]
  refine go_loop (goL_inv (fun n' a' s' => ∃ i, n' = ds.length - i ∧ i ≤ ds.length ∧ Has a' 0 (vc dc) ∧ Has a' 1 (vc dc) ∧ Has a' 5 (vc (.int .i64 (Int.ofNat i)))) (n := ds.length)
    ⟨0, rfl, Nat.zero_le _, ⟨rfl, rfl⟩, ⟨rfl, rfl⟩, ⟨rfl, rfl⟩⟩ ?_)
  rintro n' a' s' ⟨i, rfl, hi, ⟨g0, k0⟩, ⟨g1, k1⟩, ⟨g5, k5⟩⟩
  by_cases hlt : i < ds.length
  · have hlt' : (Int.ofNat i < Int.ofNat ds.length) = True := eq_true (Int.ofNat_lt.2 hlt)
    have hsu := nat_succ (show i < 9223372036854775807 by omega)
    obtain ⟨z, hz⟩ : ∃ z, ds[i]? = some z := ⟨_, List.getElem?_eq_getElem hlt⟩
    have hix := hixf hz
    have ld : loadD (En X) 9 [.str z] 0 = some (.c (.str z)) := by rw [ld9]; rfl
    simp only [zEV, Nat.reduceShiftRight, Nat.reduceMod, Nat.reduceEqDiff, Nat.reduceAdd, ↓reduceIte, reduceCtorEq, g0, k0, g1, k1, g5, k5, hlen, hlt']
    refine go_drawK _ _ (by kernel_rfl) fun n hn => ?_
    simp only [zEV, Nat.reduceShiftRight, Nat.reduceMod, Nat.reduceEqDiff, Nat.reduceAdd, ↓reduceIte, reduceCtorEq, g0, k0, g1, k1, g5, k5, hix, ld, b_selfneq, hsu]
    refine ⟨_, ?_, i + 1, rfl, hlt, ⟨?_, ?_⟩, ⟨?_, ?_⟩, ⟨?_, ?_⟩⟩
    all_goals first | (simp only [zEA, Nat.reduceShiftRight, Nat.reduceMod, Nat.reduceEqDiff, Nat.reduceAdd, ↓reduceIte, reduceCtorEq, g0, k0, g1, k1, g5, k5]; done) | (simp only [zEV, Nat.reduceShiftRight, Nat.reduceMod, Nat.reduceEqDiff, Nat.reduceAdd, ↓reduceIte, reduceCtorEq, g0, k0, g1, k1, g5, k5]; rfl) | omega
  · have hlt' : (Int.ofNat i < Int.ofNat ds.length) = False := eq_false (fun h => hlt (Int.ofNat_lt.1 h))
    simp only [zEV, Nat.reduceShiftRight, Nat.reduceMod, Nat.reduceEqDiff, Nat.reduceAdd, ↓reduceIte, reduceCtorEq, g0, k0, g1, k1, g5, k5, hlen, hlt', hres]
    exact hK _
def RTx (ps : List PW) (v : PV) : Prop := ∃ ds : List Str, ps = [.c (slD 1 (tsL ds)), .c (slD 1 (tsL ds))] ∧ ds.length ≤ 100000 ∧ v = .w (.c (.bool true))
noncomputable def e12 : Nat × Ext := (12, .fn (ofG RTx) [])
theorem c12 : OkE Tryz.prog e12 := fn_goE (exts := []) Wk.any_ok Wk.types_ok fns_ok oks0 rfl [] rfl _ (by
  rintro ps pv ⟨ds, rfl, hn, rfl⟩
  exact texts12 _ rfl ds hn _ _ fun s' => ⟨[], rfl⟩)
theorem callR_tx {X : T Ext} (h12 : (En X).ext.get 12 = some (.fn (ofG RTx) [])) (ds : List Str) (hn : ds.length ≤ 100000) (s : St) {c : C} {bs : List Nat} (hc : frzC s.h.get 2000 c = some (slD 1 (tsL ds), bs)) : CallR (En X) 12 [.c (slD 1 (tsL ds)).toC, .c c] s (.w (.c (.bool true))) s := by
  have hp : (slD 1 (tsL ds)).plain = true := slD_plain _ _
  refine callR_fn_scal (ps := [.c (slD 1 (tsL ds)), .c (slD 1 (tsL ds))]) (bs := [] ++ (bs ++ [])) (pv := .w (.c (.bool true))) h12 ?_ (ofG_eq ⟨ds, rfl, hn, rfl⟩ (by rintro v' ⟨_, _, _, rfl⟩; rfl)) rfl
  have h1 : frzW s.h.get (.c (slD 1 (tsL ds)).toC) = some (.c (slD 1 (tsL ds)), []) := frzW_plain s.h.get (.c (slD 1 (tsL ds))) (by exact hp)
  have h2 : frzW s.h.get (.c c) = some (.c (slD 1 (tsL ds)), bs) := by unfold frzW; simp only []; rw [hc]
  simp only [frzWs, h1, h2]
theorem callR_frz {E : Env} {f : Nat} {F : List PW → Option PV} {args : List W} {ps : List PW} {bs : List Nat} {pv : PV} {s : St} (hx : E.ext.get f = some (.fn F [])) (hz : frzWs s.h.get args = some (ps, bs)) (hF : F ps = some pv) :
    ∃ s2, CallR E f args s pv.toV s2 ∧ s2.nx = s.nx ∧ (∀ x, x ∉ bs → s2.h.get x = s.h.get x) ∧ ∀ x, s2.h.get x = s.h.get x ∨ s2.h.get x = some (markB (s.h.get x)) := by
  have key : extF (.fn F []) args s = match pv.scal with | true => .ok pv.toV s | false => .ok pv.toV (markS s bs) := by
    show extFn F args s = _
    simp only [extFn, hz, hF]
    cases pv.scal <;> rfl
  cases hs : pv.scal with
  | true => exact ⟨s, callR_ext hx (by rw [key, hs]), rfl, fun x _ => rfl, fun x => .inl rfl⟩
  | false =>
    refine ⟨markS s bs, callR_ext hx (by rw [key, hs]), rfl, fun x h => ?_, fun x => ?_⟩
    · show (markL s.h bs).get x = _
      rw [markL_get, if_neg h]
    · show (markL s.h bs).get x = _ ∨ (markL s.h bs).get x = _
      rw [markL_get]
      split
      · exact .inr rfl
      · exact .inl rfl
def EnvAt (s : St) (b : Nat) (v : Str) : Prop := s.h.get b = some (.row ⟨T.ofL [.str ⟨1, 120⟩, .str v], 2, true, 0, []⟩) ∨ s.h.get b = some (.row ⟨T.ofL [.str ⟨1, 120⟩, .str v], 2, false, 3, []⟩)
theorem EnvAt.mark {s s2 : St} {b : Nat} {v : Str} (h : EnvAt s b v) (h2 : s2.h.get b = s.h.get b ∨ s2.h.get b = some (markB (s.h.get b))) : EnvAt s2 b v := by
  rcases h2 with h2 | h2
  · unfold EnvAt; rw [h2]; exact h
  · refine .inr ?_
    rcases h with h | h <;> (rw [h2, h]; rfl)
theorem EnvAt.keep {s s2 : St} {b : Nat} {v : Str} (h : EnvAt s b v) (h2 : s2.h.get b = s.h.get b) : EnvAt s2 b v := h.mark (.inl h2)
def envC (b : Nat) : List C := [.sl b 0 1 (some 1) 2, .nils, .nils]
theorem EnvAt.frz {s : St} {b : Nat} {v : Str} (h : EnvAt s b v) : ∃ bs, frzW s.h.get (.agg (envC b)) = some (.agg (envV v), bs) ∧ ∀ x ∈ bs, x = b := by
  have hm : ∀ n, mapO (frzC s.h.get n) [.str ⟨1, 120⟩, .str v] = some ([.str ⟨1, 120⟩, .str v], []) := fun n => by cases n <;> rfl
  have hrd : ∀ lf sh anc, readR ⟨T.ofL [.str ⟨1, 120⟩, .str v], 2, lf, sh, anc⟩ 0 (Nat.mul 1 2) = some [.str ⟨1, 120⟩, .str v] := fun lf sh anc => by
    rw [readR_eq _ _ _ _ _ _ _ (by decide)]
    exact T.getL_ofL [.str ⟨1, 120⟩, .str v]
  have : ∃ bs, frzC s.h.get 2000 (.sl b 0 1 (some 1) 2) = some (.sl 2 [[.str ⟨1, 120⟩, .str v]], bs) ∧ ∀ x ∈ bs, x = b := by
    rcases h with h | h
    · have hfr : frzRow s.h.get b = some ⟨T.ofL [.str ⟨1, 120⟩, .str v], 2, true, 0, []⟩ := by unfold frzRow; rw [h]
      refine ⟨[b], ?_, fun x hx => by simpa using hx⟩
      show (match frzRow s.h.get b with | none => _ | some r => _) = _
      rw [hfr]
      simp only [hrd, hm 1999]
      rfl
    · have hfr : frzRow s.h.get b = none := by unfold frzRow; rw [h]
      have hfz : fzdRow s.h.get b = some ⟨T.ofL [.str ⟨1, 120⟩, .str v], 2, false, 3, []⟩ := by unfold fzdRow; rw [h]; rfl
      refine ⟨[], ?_, fun x hx => by cases hx⟩
      show (match frzRow s.h.get b with | none => _ | some r => _) = _
      rw [hfr]
      simp only [hfz, hrd, hm 1999]
      rfl
  obtain ⟨bs, h1, h2⟩ := this
  refine ⟨bs ++ ([] ++ ([] ++ [])), ?_, fun x hx => h2 x (by simpa using hx)⟩
  unfold frzW envC
  simp only [mapO, h1, show frzC s.h.get 2000 .nils = some (.nils, []) from rfl]
  rfl
theorem callR_fd {X : T Ext} (h5 : (En X).ext.get 5 = some (.fn (ofG RFd) [])) (q : Bool) (l : List UInt8) (hl : l.length ≤ 300) (s : St) (b p : Nat) (hr : LRow s b (cellsD (wdQ q))) (he : EnvAt s p (Str.ofL l)) :
    ∃ s2, CallR (En X) 5 [.c (.sl b 0 1 (some 1) 1), .agg (envC p), .c (.int .i64 0), .c .nils] s (PV.tup (pvF l q)).toV s2 ∧ s2.nx = s.nx ∧ (∀ x, x ≠ b → x ≠ p → s2.h.get x = s.h.get x) ∧ EnvAt s2 p (Str.ofL l) := by
  have hf : frzC s.h.get 2000 (.sl b 0 1 (some 1) 1) = some (.sl 1 [wdQ q], [b]) := frz_sl (ls := [wdQ q]) (cap := some 1) (fun x hx => by simp at hx; subst hx; rfl) (RowAt.of hr) (by cases q <;> rfl) (Nat.le_refl _) rfl 1999
  have h1 : frzW s.h.get (.c (.sl b 0 1 (some 1) 1)) = some (.c (.sl 1 [wdQ q]), [b]) := by unfold frzW; simp only []; rw [hf]
  obtain ⟨bs, h2, hbs⟩ := he.frz
  have h3 : frzW s.h.get (.c (.int .i64 0)) = some (.c (.int .i64 0), []) := rfl
  have h4 : frzW s.h.get (.c .nils) = some (.c .nils, []) := rfl
  have hF : ofG RFd [.c (.sl 1 [wdQ q]), .agg (envV (Str.ofL l)), .c (.int .i64 0), .c .nils] = some (.tup (pvF l q)) := ofG_eq ⟨q, l, rfl, hl, rfl⟩ (by
    rintro v' ⟨q', l', h1, _, rfl⟩
    simp only [List.cons.injEq, PW.c.injEq, PW.agg.injEq, D.sl.injEq, and_true, true_and] at h1
    rw [envV_inj h1.2, wdQ_inj h1.1])
  obtain ⟨s2, g1, g2, g3, g4⟩ := callR_frz (s := s) (args := [.c (.sl b 0 1 (some 1) 1), .agg (envC p), .c (.int .i64 0), .c .nils]) (bs := [b] ++ (bs ++ ([] ++ ([] ++ [])))) h5 (by simp only [frzWs, h1, h2, h3, h4]) hF
  exact ⟨s2, g1, g2, fun x hb hp => g3 x (fun hx => by simp at hx; exact hx.elim hb fun hx => hp (hbs x hx)), he.mark (g4 p)⟩
theorem callR_tqE {X : T Ext} (h7 : (En X).ext.get 7 = some (.fn (ofG RTq) [])) (l : List UInt8) (h2 : l.length ≤ 300) (s : St) (p : Nat) (he : EnvAt s p (Str.ofL l)) :
    ∃ s2, CallR (En X) 7 [.agg (cellsD (wdQ false)), .agg (envC p), .c (.int .i64 0)] s (.tup [.c (.str (textS (charsOf l false))), .agg (cellsD (envV (Str.ofL l))), .c (.int .i64 0)]) s2 ∧ s2.nx = s.nx ∧ (∀ x, x ≠ p → s2.h.get x = s.h.get x) := by
  have h1 : frzW s.h.get (.agg (cellsD (wdQ false))) = some (.agg (wdQ false), []) := frzW_plain s.h.get (.agg (wdQ false)) rfl
  obtain ⟨bs, hb, hbs⟩ := he.frz
  have h3 : frzW s.h.get (.c (.int .i64 0)) = some (.c (.int .i64 0), []) := rfl
  obtain ⟨s2, g1, g2, g3, g4⟩ := callR_frz (s := s) (args := [.agg (cellsD (wdQ false)), .agg (envC p), .c (.int .i64 0)]) (bs := [] ++ (bs ++ ([] ++ []))) (pv := .tup [.c (.str (textS (charsOf l false))), .agg (envV (Str.ofL l)), .c (.int .i64 0)]) h7 (by simp only [frzWs, h1, hb, h3]) (ofG_eq ⟨l, rfl, h2, rfl⟩ (by
    rintro v' ⟨l', h1, _, rfl⟩
    simp only [List.cons.injEq, PW.agg.injEq, and_true, true_and] at h1
    rw [envV_inj h1]))
  exact ⟨s2, g1, g2, fun x hp => g3 x (fun hx => by simp at hx; exact hp (hbs x hx))⟩
theorem gsU_of {look : Look} (hg : rowsAre look Wk.gs = true) : rowsAre look gsU = true := by
  obtain ⟨l0, l1, r, e, h0, h1⟩ : ∃ l0 l1 r, Wk.gs = (0, l0) :: (1, l1) :: r ∧ tab0 = l0 ∧ tab1 = l1 := ⟨_, _, _, rfl, by kernel_rfl, by kernel_rfl⟩
  rw [e] at hg
  show rowsAre look [(0, tab0), (1, tab1)] = true
  rw [h0, h1]
  unfold rowsAre at hg ⊢
  cases hr : rowIs look 0 l0 with
  | false => simp only [hr] at hg; cases hg
  | true =>
    simp only [hr] at hg ⊢
    unfold rowsAre at hg ⊢
    cases hr1 : rowIs look 1 l1 with
    | false => simp only [hr1] at hg; cases hg
    | true => rfl
theorem textS_ofR (r : List Nat) : textS (ofR r) = txS r .nil := by
  unfold textS ofR
  rw [List.map_map]
  congr 1
  exact (List.map_congr_left fun x _ => rfl).trans (List.map_id r)
theorem textS_chars (v : List UInt8) (q : Bool) : textS (charsOf v q) = txS (runesL v) .nil := by
  unfold textS charsOf
  rw [List.map_map, runes_eq]
  congr 1
  exact (List.map_congr_left fun x _ => rfl).trans (List.map_id _)
theorem textS_qs (v : List UInt8) (a b : Bool) : textS (charsOf v a) = textS (charsOf v b) := by rw [textS_chars, textS_chars]
theorem TS_q (v : List UInt8) : TS v true = [textS (charsOf v true)] := rfl
theorem TS_u (v : List UInt8) : TS v false = (words v).map fun w => textS (charsOf w true) := by
  show ((grp blN [] (runesL v)).map ofR).map textS = _
  rw [fields_words _ v (Nat.le_refl _), List.map_map, List.map_map]
  exact List.map_congr_left fun w _ => by
    show textS (ofR (runesL w)) = _
    rw [textS_ofR, textS_chars]
theorem words_len (v : List UInt8) : ∀ w ∈ words v, w.length ≤ v.length := fun w hw => by
  have := grp_len blB v [] w hw
  simpa using this
end Ws
