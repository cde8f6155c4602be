import Derived.Test.YtpkjpkfamdmgiaaGreatDoorWqI
import Derived.Test.YtpkjpkfamdmgiaaGreatDoorWqB1
import Derived.Test.YtpkjpkfamdmgiaaGreatDoorWqB2
import Derived.Test.YtpkjpkfamdmgiaaGreatDoorEwL
namespace Ws
open Go Go.Proofs Ev Wq
set_option linter.unusedVariables false
set_option linter.unusedSimpArgs false
set_option linter.unnecessarySimpa false
set_option maxRecDepth 100000
theorem st28 (X : T Ext) (s : St) (b o : Nat) (w : W) : store (En X) 28 s b o w = if w.cells.length = 3 then writeL s b o w.cells else none := store_of (tab28 X) tis28 s b o w
theorem st34 (X : T Ext) (s : St) (b o : Nat) (w : W) : store (En X) 34 s b o w = if w.cells.length = 1 then writeL s b o w.cells else none := store_of (tab34 X) tis34 s b o w
theorem ldA1 {x : List D} (h : x.length = 1) {s : St} {b : Nat} (hr : LRow s b (cellsD x)) : ldHA 1 s.h.get b 0 = some (.agg (cellsD x)) := by
  have := hr.ldA
  rwa [show (cellsD x).length = 1 by rw [cellsD, List.length_map, h]] at this
theorem ldA3 {x : List D} (h : x.length = 3) {s : St} {b : Nat} (hr : LRow s b (cellsD x)) : ldHA 3 s.h.get b 0 = some (.agg (cellsD x)) := by
  have := hr.ldA
  rwa [show (cellsD x).length = 3 by rw [cellsD, List.length_map, h]] at this
def RRq (ps : List PW) (v : PV) : Prop := ∃ (q : Bool) (l : List UInt8), ps = [.agg (wdQ q), .agg (envV (Str.ofL l)), .c (.int .i64 0)] ∧ l.length ≤ 300 ∧ v = .tup [.c (.sl 4 [elN (rnV l q)]), .agg (envV (Str.ofL l)), .c (.int .i64 0)]
noncomputable def e16 : Nat × Ext := (16, .fn (ofG RRq) [])
theorem c16 : OkE Tryz.prog e16 := ext_frz Wk.any_ok Wk.types_ok Wk.fns_ok Wk.extsM_ok [] rfl (by kernel_rfl) _ 20 2000 fun ps pv h => by
  obtain ⟨q, l, rfl, h1, rfl⟩ := ofG_some h
  cases q with
  | true => exact runsT_all l.length (Str.ofL l).n h1
  | false => exact runsF_all l.length (Str.ofL l).n h1
theorem envV_inj {a b : List UInt8} (h : envV (Str.ofL a) = envV (Str.ofL b)) : a = b := by
  simp only [envV, List.cons.injEq, D.sl.injEq, D.str.injEq, and_true, true_and] at h
  exact ofL_inj h
theorem wdQ_inj {a b : Bool} (h : wdQ a = wdQ b) : a = b := by
  simp only [wdQ, List.cons.injEq, D.sl.injEq, D.bool.injEq, and_true, true_and] at h
  exact h
theorem callR_rq {X : T Ext} (h16 : (En X).ext.get 16 = some (.fn (ofG RRq) [])) (q : Bool) (l : List UInt8) (h : l.length ≤ 300) (s : St) :
    CallR (En X) 16 [.agg (cellsD (wdQ q)), .agg (cellsD (envV (Str.ofL l))), .c (.int .i64 0)] s (.tup [.c (.dat 4 [elN (rnV l q)]), .agg (cellsD (envV (Str.ofL l))), .c (.int .i64 0)]) s :=
  callR_fn (ps := [.agg (wdQ q), .agg (envV (Str.ofL l)), .c (.int .i64 0)]) (pv := .tup [.c (.sl 4 [elN (rnV l q)]), .agg (envV (Str.ofL l)), .c (.int .i64 0)]) h16 (ofG_eq ⟨q, l, rfl, h, rfl⟩ (by
    rintro v' ⟨q', l', h1, _, rfl⟩
    simp only [List.cons.injEq, PW.agg.injEq, and_true, true_and] at h1
    rw [wdQ_inj h1.1, envV_inj h1.2])) (by cases q <;> rfl)
theorem grp_len {α : Type} (p : α → Bool) : ∀ (l cur : List α), ∀ w ∈ grp p cur l, w.length ≤ cur.length + l.length
  | [], cur, w, h => by
    unfold grp at h
    split at h
    · cases h
    · simp at h; subst h; simp
  | c :: l, cur, w, h => by
    unfold grp at h
    split at h
    · split at h
      · have := grp_len p l [] w h; simp at this ⊢; omega
      · rcases List.mem_cons.1 h with rfl | h
        · simp
        · have := grp_len p l [] w h; simp at this ⊢; omega
    · have := grp_len p l (cur ++ [c]) w h; simp at this ⊢; omega
theorem fields_len {v : List UInt8} {q : Bool} {f : List (Nat × Bool)} (h : f ∈ fieldsV v q) : f.length ≤ v.length := by
  unfold fieldsV at h
  split at h
  · simp at h; subst h; exact chars_len v true
  · obtain ⟨w, hw, rfl⟩ := List.mem_map.1 h
    have := grp_len blN _ _ w hw
    have h2 := runesL_len _ v (Nat.le_refl _)
    rw [nodup_len]
    simp at this
    omega
theorem textS_len (f : List (Nat × Bool)) : (textS f).len ≤ 4 * f.length := by
  have := txS_len (f.map Prod.fst) .nil
  rw [List.length_map] at this
  unfold textS
  have h0 : (Str.nil).len = 0 := rfl
  omega
theorem SlAt_len (X : T Ext) (look : Look) {s : St} {c : C} {els : List (List D)} (h : SlAt s c 1 els) : len (En X) 25 look c = some els.length := by
  rcases h.2 with ⟨rfl, rfl⟩ | ⟨b, sh, anc, rfl, _⟩
  · exact len_nils (us25 X)
  · exact len_sl (us25 X) _ _ _ _ _
def TS (v : List UInt8) (q : Bool) : List Str := (fieldsV v q).map textS
theorem fields5 (X : T Ext) (hX : (En X).ext.get 5 = none) (h16 : (En X).ext.get 16 = some (.fn (ofG RRq) [])) (h17 : (En X).ext.get 17 = some (.fn (ofG RFl) [])) (h18 : (En X).ext.get 18 = some (.fn (ofG RMt) [])) (l : List UInt8) (hl : l.length ≤ 300) (q : Bool) (s : St) (K : V → St → Prop)
    (hK1 : (TS l q).length ≤ 100 → ∀ c s', SlAt s' c 1 (tsL (TS l q)) → K (.tup [.c c, .agg (cellsD (envV (Str.ofL l))), .c (.int .i64 0)]) s')
    (hK2 : 100 < (TS l q).length → ∀ s', K (.tup [.c .nils, .agg (cellsD (envV (Str.ofL l))), .c (.int .i64 3)]) s') :
    goC (En X) 5 [.c (.dat 1 [wdQ q]), .agg (cellsD (envV (Str.ofL l))), .c (.int .i64 0), .c .nils] s K := by
  refine goC_body hX (kp5 X) (fn5 X) rfl (by kernel_rfl) ?_
  have hres : Tryz.f5.results.toList = [.tmp 8, .cell 9 28, .tmp 10] := rfl
  obtain ⟨e, he⟩ : ∃ e, e = envV (Str.ofL l) := ⟨_, rfl⟩
  have hel : e.length = 3 := by rw [he]; rfl
  have hec : (cellsD e).length = 3 := by rw [he]; rfl
  have hrc := fun s => callR_rq h16 q l hl s
  rw [← he] at hK1 hK2 hrc ⊢
  have q5 := LRow.new s (cellsD e)
  have n0 : (s.new (.row (mkRow (cellsD e)))).nx = s.nx + 1 := St.new_nx _ _
  simp only [zEV, Nat.reduceShiftRight, Nat.reduceMod, Nat.reduceEqDiff, Nat.reduceAdd, ↓reduceIte, reduceCtorEq, nBox_eq, al28]
  generalize s.new (.row (mkRow (cellsD e))) = s1 at q5 n0 ⊢
  have q5' := q5.keep (new_old s1 (.row (mkRow [.nils, .nils, .nils])) (by omega))
  have q9 := LRow.new s1 [.nils, .nils, .nils]
  have n1 : (s1.new (.row (mkRow [.nils, .nils, .nils]))).nx = s1.nx + 1 := St.new_nx _ _
  generalize s1.new (.row (mkRow [.nils, .nils, .nils])) = s2 at q5' q9 n1 ⊢
  generalize hp5 : s.nx = p5 at *
  generalize hp9 : s1.nx = p9 at *
  have l5 := ldA3 hel q5'
  obtain ⟨s3, w3, r12, n3, o3⟩ := row_written s2 [.nils, .nils, .nils] (cellsD e) hec
  have hie : IsEls 1 (.sl 1 [wdQ q]) := .inr ⟨_, rfl, fun x hx => by simp at hx; subst hx; cases q <;> rfl⟩
  have hlen : ∀ look, len (En X) 36 look (.dat 1 [wdQ q]) = some 1 := fun look => len_els (look := look) (us36 X) hie
  have hix : indexAddr (En X) 36 (.dat 1 [wdQ q]) (Int.ofNat 0) = some (.dp (wdQ q) 0) := index_els (us36 X) (sz34 X) hie rfl
  simp only [zEV, Nat.reduceShiftRight, Nat.reduceMod, Nat.reduceEqDiff, Nat.reduceAdd, ↓reduceIte, reduceCtorEq, ldh28, l5, al28, st28, hec, w3, hlen]
  have q5s := q5'.keep (o3 p5 (by omega))
  have q9s := q9.keep (o3 p9 (by omega))
  generalize hp12 : s2.nx = p12 at *
  generalize hdw : C.dat 1 [wdQ q] = dw at *
  obtain ⟨fs, hfs⟩ : ∃ fs, fs = fieldsV l q := ⟨_, rfl⟩
  have hTS : TS l q = fs.map textS := by rw [hfs]; rfl
  have hfl : ∀ f ∈ fs, f.length ≤ 300 := fun f hf => by rw [hfs] at hf; have := fields_len hf; omega
  rw [hTS] at hK1 hK2
  rw [List.length_map] at hK1 hK2
  refine go_loop (goL_inv (fun n' a' s' => ∃ i c, n' = 1 - i ∧ i ≤ 1 ∧ Has a' 2 (vc (.int .i64 0)) ∧ Has a' 3 (vc .nils) ∧ Has a' 5 (vc (.ptr p5 0)) ∧ Has a' 9 (vc (.ptr p9 0)) ∧ Has a' 11 (vc c) ∧ Has a' 12 (vc (.ptr p12 0)) ∧ Has a' 23 (vc dw) ∧ Has a' 24 (vc (.int .i64 1)) ∧ Has a' 25 (vc (.int .i64 (Int.ofNat i))) ∧
      LRow s' p5 (cellsD e) ∧ LRow s' p9 [.nils, .nils, .nils] ∧ LRow s' p12 (cellsD e) ∧ p12 < s'.nx ∧ ((i = 0 ∧ c = .nils) ∨ (i = 1 ∧ SlAt s' c 1 (tsL (fs.map textS)) ∧ fs.length ≤ 100 ∧ ∀ x, rw' c x → p9 < x))) (n := 1)
    ⟨0, .nils, rfl, Nat.zero_le _, ⟨rfl, rfl⟩, ⟨rfl, rfl⟩, ⟨rfl, rfl⟩, ⟨rfl, rfl⟩, ⟨rfl, rfl⟩, ⟨rfl, rfl⟩, ⟨rfl, rfl⟩, ⟨rfl, rfl⟩, ⟨rfl, rfl⟩, q5s, q9s, r12, by omega, .inl ⟨rfl, rfl⟩⟩ ?_)
  rintro n' a' s' ⟨i, c, rfl, hi, ⟨g2, k2⟩, ⟨g3, k3⟩, ⟨g5, k5⟩, ⟨g9, k9⟩, ⟨g11, k11⟩, ⟨g12, k12⟩, ⟨g23, k23⟩, ⟨g24, k24⟩, ⟨g25, k25⟩, r5, r9, r12, hnx, h⟩
  rcases h with ⟨rfl, rfl⟩ | ⟨rfl, hsl, hle, hp9r⟩
  · have hlt' : (Int.ofNat 0 < 1) = True := eq_true (by decide)
    have ld : loadD (En X) 34 (wdQ q) 0 = some (.agg (cellsD (wdQ q))) := by rw [ld34]; cases q <;> rfl
    have hw1 : (cellsD (wdQ q)).length = 1 := by cases q <;> rfl
    obtain ⟨s4, w4, r14, n4, o4⟩ := row_written s' [.nils] (cellsD (wdQ q)) hw1
    have l14 := ldA1 (x := wdQ q) (by cases q <;> rfl) r14
    have r12b := r12.keep (o4 p12 hnx)
    have l12 := ldA3 hel r12b
    simp only [zEV, Nat.reduceShiftRight, Nat.reduceMod, Nat.reduceEqDiff, Nat.reduceAdd, ↓reduceIte, reduceCtorEq, g2, k2, g3, k3, g5, k5, g9, k9, g11, k11, g12, k12, g23, k23, g24, k24, g25, k25, hlt', hix, ld, al34, st34, hw1, w4, ldh34, ldh28, l14, l12]
    refine go_call _ _ _ _ _ _ (ws := [.agg (cellsD (wdQ q)), .agg (cellsD e), .c (.int .i64 0)]) rfl (by simp only [zEV, Nat.reduceShiftRight, Nat.reduceMod, Nat.reduceEqDiff, Nat.reduceAdd, ↓reduceIte, reduceCtorEq, g2, k2, argsOf_cons, argsOf_nil]) ?_
    refine goC_of (hrc s4) ?_
    obtain ⟨s5, w5, r16, n5, o5⟩ := row_written s4 [.nils, .nils, .nils] (cellsD e) hec
    have z0 : ((0 : Int) = 0) = True := eq_self 0
    have l16 := ldA3 hel r16
    have r12c := r12b.keep (o5 p12 (by omega))
    obtain ⟨s6, w6, r12d, n6, o6⟩ := r12c.over (r := cellsD e) rfl
    have r5d := ((r5.keep (o4 p5 (by omega))).keep (o5 p5 (by omega))).keep (o6 p5 (by omega))
    have r9d := ((r9.keep (o4 p9 (by omega))).keep (o5 p9 (by omega))).keep (o6 p9 (by omega))
    simp only [zEV, Nat.reduceShiftRight, Nat.reduceMod, Nat.reduceEqDiff, Nat.reduceAdd, ↓reduceIte, reduceCtorEq, g2, k2, g3, k3, g5, k5, g9, k9, g11, k11, g12, k12, g23, k23, g24, k24, g25, k25, al28, st28, hec, w5, z0, ldh28, l16, w6]
    refine go_call _ _ _ _ _ _ (ws := [.c (.dat 4 [elN (rnV l q)])]) rfl (by simp only [zEA, Nat.reduceShiftRight, Nat.reduceMod, Nat.reduceEqDiff, Nat.reduceAdd, ↓reduceIte, reduceCtorEq, argsOf_cons, argsOf_nil]) ?_
    refine goC_of (callR_fl h17 l q (by omega) s6) ?_
    rw [← hfs]
    have hief : IsEls 1 (slD 1 (fs.map fun f => [chD f])) := isEls_slD fun x hx => by obtain ⟨f, _, rfl⟩ := List.mem_map.1 hx; rfl
    have hlenf : ∀ look, len (En X) 53 look (slD 1 (fs.map fun f => [chD f])).toC = some fs.length := fun look => by rw [len_els (us53 X) hief, els_slD, List.length_map]
    have hixf : ∀ {j : Nat} {f : List (Nat × Bool)}, fs[j]? = some f → indexAddr (En X) 53 (slD 1 (fs.map fun f => [chD f])).toC (Int.ofNat j) = some (.dp [chD f] 0) := fun {j f} h => index_els (us53 X) (sz40 X) hief (by rw [els_slD]; exact getD_map h)
    have hldf : ∀ f : List (Nat × Bool), loadD (En X) 40 [chD f] 0 = some (.c (chD f).toC) := fun f => by rw [ld40]; rfl
    generalize (slD 1 (fs.map fun f => [chD f])).toC = df at *
    simp only [zEV, Nat.reduceShiftRight, Nat.reduceMod, Nat.reduceEqDiff, Nat.reduceAdd, ↓reduceIte, reduceCtorEq, g2, k2, g3, k3, g5, k5, g9, k9, g11, k11, g12, k12, g23, k23, g24, k24, g25, k25, hlenf]
    refine go_loop (goL_inv (fun n'' a'' t => ∃ j c, n'' = fs.length - j ∧ j ≤ fs.length ∧ j ≤ 100 ∧ Has a'' 2 (vc (.int .i64 0)) ∧ Has a'' 3 (vc .nils) ∧ Has a'' 5 (vc (.ptr p5 0)) ∧ Has a'' 9 (vc (.ptr p9 0)) ∧ Has a'' 11 (vc c) ∧ Has a'' 12 (vc (.ptr p12 0)) ∧ Has a'' 23 (vc dw) ∧ Has a'' 24 (vc (.int .i64 1)) ∧ Has a'' 25 (vc (.int .i64 (Int.ofNat 0))) ∧
        Has a'' 43 (vc df) ∧ Has a'' 44 (vc (.int .i64 (Int.ofNat fs.length))) ∧ Has a'' 45 (vc (.int .i64 (Int.ofNat j))) ∧ SlAt t c 1 (tsL ((fs.take j).map textS)) ∧ (∀ x, rw' c x → s6.nx ≤ x) ∧ s6.nx ≤ t.nx ∧ (∀ x, x < s6.nx → t.h.get x = s6.h.get x)) (n := fs.length)
      ⟨0, .nils, rfl, Nat.zero_le _, by decide, ⟨?_, ?_⟩, ⟨?_, ?_⟩, ⟨?_, ?_⟩, ⟨?_, ?_⟩, ⟨?_, ?_⟩, ⟨?_, ?_⟩, ⟨?_, ?_⟩, ⟨?_, ?_⟩, ⟨?_, ?_⟩, ⟨?_, ?_⟩, ⟨?_, ?_⟩, ⟨?_, ?_⟩, SlAt.nil _ _, fun x hx => absurd hx (rw_nils x), Nat.le_refl _, fun _ _ => rfl⟩ ?_)
    all_goals first | (simp only [zEA, Nat.reduceShiftRight, Nat.reduceMod, Nat.reduceEqDiff, Nat.reduceAdd, ↓reduceIte, reduceCtorEq, g2, k2, g3, k3, g5, k5, g9, k9, g11, k11, g12, k12, g23, k23, g24, k24, g25, k25]; done) | (simp only [zEV, Nat.reduceShiftRight, Nat.reduceMod, Nat.reduceEqDiff, Nat.reduceAdd, ↓reduceIte, reduceCtorEq, g2, k2, g3, k3, g5, k5, g9, k9, g11, k11, g12, k12, g23, k23, g24, k24, g25, k25]; rfl) | skip
    rintro n'' a2 t ⟨j, c, rfl, hj, hj100, ⟨b2, d2⟩, ⟨b3, d3⟩, ⟨b5, d5⟩, ⟨b9, d9⟩, ⟨b11, d11⟩, ⟨b12, d12⟩, ⟨b23, d23⟩, ⟨b24, d24⟩, ⟨b25, d25⟩, ⟨b43, d43⟩, ⟨b44, d44⟩, ⟨b45, d45⟩, hsl, hrw, hn6, ho6⟩
    by_cases hlt : j < fs.length
    · have hltj : (Int.ofNat j < Int.ofNat fs.length) = True := eq_true (Int.ofNat_lt.2 hlt)
      obtain ⟨f, hf⟩ : ∃ f, fs[j]? = some f := ⟨_, List.getElem?_eq_getElem hlt⟩
      have hff := hfl f (List.mem_of_getElem? hf)
      have hx := hixf hf
      have hie1 : IsEls 1 (.sl 1 (tsL [textS f])) := .inr ⟨_, rfl, tsL_one _⟩
      have hlen1 : ∀ look, len (En X) 25 look (.dat 1 (tsL [textS f])) = some 1 := fun look => len_els (look := look) (us25 X) hie1
      have hix1 : indexAddr (En X) 25 (.dat 1 (tsL [textS f])) (Int.ofNat 0) = some (.dp [.str (textS f)] 0) := index_els (us25 X) (sz9 X) hie1 rfl
      have hld1 : loadD (En X) 9 [.str (textS f)] 0 = some (.c (.str (textS f))) := by rw [ld9]; rfl
      have hmt := callR_mt h18 f (by omega) t
      generalize hdz : C.dat 1 (tsL [textS f]) = dz at *
      simp only [zEV, Nat.reduceShiftRight, Nat.reduceMod, Nat.reduceEqDiff, Nat.reduceAdd, ↓reduceIte, reduceCtorEq, b2, d2, b3, d3, b5, d5, b9, d9, b11, d11, b12, d12, b23, d23, b24, d24, b25, d25, b43, d43, b44, d44, b45, d45, hltj, hx, hldf]
      refine go_call _ _ _ _ _ _ (ws := [.c (chD f).toC, .c .nils]) rfl (by simp only [zEV, Nat.reduceShiftRight, Nat.reduceMod, Nat.reduceEqDiff, Nat.reduceAdd, ↓reduceIte, reduceCtorEq, b3, d3, argsOf_cons, argsOf_nil]) ?_
      refine goC_of hmt ?_
      simp only [zEV, Nat.reduceShiftRight, Nat.reduceMod, Nat.reduceEqDiff, Nat.reduceAdd, ↓reduceIte, reduceCtorEq, b2, d2, b3, d3, b5, d5, b9, d9, b11, d11, b12, d12, b23, d23, b24, d24, b25, d25, b43, d43, b44, d44, b45, d45, hlen1]
      refine go_loop (goL_inv (fun n3 a3 t3 => ∃ m c3, n3 = 1 - m ∧ m ≤ 1 ∧ j + m ≤ 100 ∧ Has a3 2 (vc (.int .i64 0)) ∧ Has a3 3 (vc .nils) ∧ Has a3 5 (vc (.ptr p5 0)) ∧ Has a3 9 (vc (.ptr p9 0)) ∧ Has a3 11 (vc c3) ∧ Has a3 12 (vc (.ptr p12 0)) ∧ Has a3 23 (vc dw) ∧ Has a3 24 (vc (.int .i64 1)) ∧ Has a3 25 (vc (.int .i64 (Int.ofNat 0))) ∧
          Has a3 43 (vc df) ∧ Has a3 44 (vc (.int .i64 (Int.ofNat fs.length))) ∧ Has a3 45 (vc (.int .i64 (Int.ofNat j))) ∧ Has a3 51 (vc dz) ∧ Has a3 52 (vc (.int .i64 1)) ∧ Has a3 53 (vc (.int .i64 (Int.ofNat m))) ∧ SlAt t3 c3 1 (tsL ((fs.take (j + m)).map textS)) ∧ (∀ x, rw' c3 x → s6.nx ≤ x) ∧ s6.nx ≤ t3.nx ∧ (∀ x, x < s6.nx → t3.h.get x = s6.h.get x)) (n := 1)
        ⟨0, c, rfl, Nat.zero_le _, hj100, ⟨?_, ?_⟩, ⟨?_, ?_⟩, ⟨?_, ?_⟩, ⟨?_, ?_⟩, ⟨?_, ?_⟩, ⟨?_, ?_⟩, ⟨?_, ?_⟩, ⟨?_, ?_⟩, ⟨?_, ?_⟩, ⟨?_, ?_⟩, ⟨?_, ?_⟩, ⟨?_, ?_⟩, ⟨?_, ?_⟩, ⟨?_, ?_⟩, ⟨?_, ?_⟩, hsl, hrw, hn6, ho6⟩ ?_)
      all_goals first | (simp only [zEV, Nat.reduceShiftRight, Nat.reduceMod, Nat.reduceEqDiff, Nat.reduceAdd, ↓reduceIte, reduceCtorEq, b2, d2, b3, d3, b5, d5, b9, d9, b11, d11, b12, d12, b23, d23, b24, d24, b25, d25, b43, d43, b44, d44, b45, d45]; done) | (simp only [zEV, Nat.reduceShiftRight, Nat.reduceMod, Nat.reduceEqDiff, Nat.reduceAdd, ↓reduceIte, reduceCtorEq, b2, d2, b3, d3, b5, d5, b9, d9, b11, d11, b12, d12, b23, d23, b24, d24, b25, d25, b43, d43, b44, d44, b45, d45]; rfl) | skip
      rintro n3 a3 t3 ⟨m, c3, rfl, hm, hjm, ⟨x2, y2⟩, ⟨x3, y3⟩, ⟨x5, y5⟩, ⟨x9, y9⟩, ⟨x11, y11⟩, ⟨x12, y12⟩, ⟨x23, y23⟩, ⟨x24, y24⟩, ⟨x25, y25⟩, ⟨x43, y43⟩, ⟨x44, y44⟩, ⟨x45, y45⟩, ⟨x51, y51⟩, ⟨x52, y52⟩, ⟨x53, y53⟩, hs3, hr3, hn3, ho3⟩
      rcases Nat.lt_or_ge m 1 with h0 | h0
      · obtain rfl : m = 0 := by omega
        have hl3 := SlAt_len X t3.h.get hs3
        rw [tsL, List.length_map, List.length_map, List.length_take, Nat.add_zero, Nat.min_eq_left (by omega)] at hl3
        have htl := textS_len f
        have e4 : ((4000 : Int) < Int.ofNat (textS f).len) = False := eq_false (by show ¬ (4000 : Int) < (((textS f).len : Nat) : Int); omega)
        have hlz : ∀ look, len (En X) 9 look (.str (textS f)) = some (textS f).len := fun look => len_str (ustr9 X) _
        by_cases h100 : j = 100
        · have e1 : (Int.ofNat j = 100) = True := eq_true (by subst h100; rfl)
          simp only [zEV, Nat.reduceShiftRight, Nat.reduceMod, Nat.reduceEqDiff, Nat.reduceAdd, ↓reduceIte, reduceCtorEq, x2, y2, x3, y3, x5, y5, x9, y9, x11, y11, x12, y12, x23, y23, x24, y24, x25, y25, x43, y43, x44, y44, x45, y45, x51, y51, x52, y52, x53, y53, hlt', hix1, hld1, hlz, e4, hl3, e1]
          have r5e : LRow t3 p5 (cellsD e) := r5d.keep (ho3 p5 (by omega))
          have r9e : LRow t3 p9 [.nils, .nils, .nils] := r9d.keep (ho3 p9 (by omega))
          refine go_drawD _ _ 2 4 [0, 0, 3, 7] rfl (by kernel_rfl) (by kernel_rfl) (by kernel_rfl) ?_
          have l5e := ldA3 hel r5e
          have r9f : LRow ⟨t3.h, t3.nx + 4⟩ p9 [.nils, .nils, .nils] := r9e.keep rfl
          obtain ⟨t4, w4, r4, n4, o4⟩ := r9f.over (r := cellsD e) hec
          simp only [zEV, Nat.reduceShiftRight, Nat.reduceMod, Nat.reduceEqDiff, Nat.reduceAdd, ↓reduceIte, reduceCtorEq, zDH, Nat.reduceOr, Nat.reduceAnd, Nat.reduceShiftLeft, Nat.reduceLT, x2, y2, x3, y3, x5, y5, x9, y9, ldh28, l5e]
          rw [dt_B]
          refine dtB_storeL r9f rfl (b := p9) (o := 0) (w := .agg (cellsD e)) (s' := t4) (by simp only [zEA, Nat.reduceShiftRight, Nat.reduceMod, Nat.reduceEqDiff, Nat.reduceAdd, ↓reduceIte, reduceCtorEq, x9, y9]) (by simp only [zEA, Nat.reduceShiftRight, Nat.reduceMod, Nat.reduceEqDiff, Nat.reduceAdd, ↓reduceIte, reduceCtorEq]) (by rw [st28, show (W.agg (cellsD e)).cells = cellsD e from rfl, if_pos hec]; exact w4) ?_
          rw [dtB_assign, dtB_nil]
          have l9 := ldA3 hel r4
          simp only [zEV, Nat.reduceShiftRight, Nat.reduceMod, Nat.reduceEqDiff, Nat.reduceAdd, ↓reduceIte, reduceCtorEq, x2, y2, x3, y3, x5, y5, x9, y9, ldh28, l9, hres]
          exact hK2 (by omega) _
        · have e1 : (Int.ofNat j = 100) = False := eq_false (by show ¬ ((j : Nat) : Int) = 100; omega)
          have hsu : (wrapK .i64 (Int.ofNat 0 + 1)) = Int.ofNat 1 := nat_succ (show 0 < 9223372036854775807 by omega)
          have sl4 := SlAt.newRow (y := .row (mkRow [.str (textS f)])) hs3
          have hrow : (t3.new (.row (mkRow [.str (textS f)]))).h.get t3.nx = some (.row ⟨T.ofL [.str (textS f)], 1, true, 0, []⟩) := by rw [row_newC, mkRow_eq]; rfl
          have hn := newCells_one (z := 1) (x := [D.str (textS f)]) hrow (T.getL_ofL _) (some 1)
          have n4 : (t3.new (.row (mkRow [.str (textS f)]))).nx = t3.nx + 1 := St.new_nx _ _
          obtain ⟨c4, t5, happ, sl5, kp5, hc5⟩ := app_cells (y := .sl t3.nx 0 1 (some 1) 1) (l := [[D.str (textS f)]]) (el25 X) (by rw [ti9.1]; exact sl4) (by rw [ti9.1]; intro x hx; simp at hx; subst hx; rfl) (by rw [ti9.1]; decide)
            (by rw [ti9.1]; exact hn) (by rw [ti9.2]; have : maxBytes = 140737488355328 := rfl; simp [tsL]; omega)
          have hmap : tsL ((fs.take (j + 0)).map textS) ++ [[D.str (textS f)]] = tsL ((fs.take (j + 1)).map textS) := by
            rw [List.take_add_one, hf]; simp [tsL]
          rw [ti9.1, hmap] at sl5
          simp only [zEV, Nat.reduceShiftRight, Nat.reduceMod, Nat.reduceEqDiff, Nat.reduceAdd, ↓reduceIte, reduceCtorEq, x2, y2, x3, y3, x5, y5, x9, y9, x11, y11, x12, y12, x23, y23, x24, y24, x25, y25, x43, y43, x44, y44, x45, y45, x51, y51, x52, y52, x53, y53, hlt', hix1, hld1, hlz, e4, hl3, e1, nBuildSlice_eq, partsOf_cons, partsOf_nil, bS25_1, us25, happ, hsu]
          have kk := kp5.1
          refine ⟨_, ?_, 1, c4, rfl, Nat.le_refl _, by omega, ⟨?_, ?_⟩, ⟨?_, ?_⟩, ⟨?_, ?_⟩, ⟨?_, ?_⟩, ⟨?_, ?_⟩, ⟨?_, ?_⟩, ⟨?_, ?_⟩, ⟨?_, ?_⟩, ⟨?_, ?_⟩, ⟨?_, ?_⟩, ⟨?_, ?_⟩, ⟨?_, ?_⟩, ⟨?_, ?_⟩, ⟨?_, ?_⟩, ⟨?_, ?_⟩, sl5, fun x hx => ?_, by omega, fun x hx => ?_⟩
          rotate_right 2
          · obtain ⟨o, nn, cap, z, ec⟩ := hx
            rcases hc5 _ _ _ _ _ ec with ⟨_, h2⟩ | h2
            · cases h2
            · omega
          · rw [kp5.2 x (by omega) (fun b o nn cap z ec => by have := hr3 b ⟨_, _, _, _, ec⟩; omega), new_old t3 _ (by omega)]
            exact ho3 x hx
          all_goals first | (simp only [zEV, Nat.reduceShiftRight, Nat.reduceMod, Nat.reduceEqDiff, Nat.reduceAdd, ↓reduceIte, reduceCtorEq, x2, y2, x3, y3, x5, y5, x9, y9, x11, y11, x12, y12, x23, y23, x24, y24, x25, y25, x43, y43, x44, y44, x45, y45, x51, y51, x52, y52, x53, y53]; done) | (simp only [zEV, Nat.reduceShiftRight, Nat.reduceMod, Nat.reduceEqDiff, Nat.reduceAdd, ↓reduceIte, reduceCtorEq, x2, y2, x3, y3, x5, y5, x9, y9, x11, y11, x12, y12, x23, y23, x24, y24, x25, y25, x43, y43, x44, y44, x45, y45, x51, y51, x52, y52, x53, y53]; rfl) | omega
      · obtain rfl : m = 1 := by omega
        have hlt1 : (Int.ofNat 1 < 1) = False := eq_false (by decide)
        have hsu := nat_succ (show j < 9223372036854775807 by omega)
        simp only [zEV, Nat.reduceShiftRight, Nat.reduceMod, Nat.reduceEqDiff, Nat.reduceAdd, ↓reduceIte, reduceCtorEq, x2, y2, x3, y3, x5, y5, x9, y9, x11, y11, x12, y12, x23, y23, x24, y24, x25, y25, x43, y43, x44, y44, x45, y45, x51, y51, x52, y52, x53, y53, hlt1, hsu]
        refine ⟨_, ?_, j + 1, c3, rfl, hlt, hjm, ⟨?_, ?_⟩, ⟨?_, ?_⟩, ⟨?_, ?_⟩, ⟨?_, ?_⟩, ⟨?_, ?_⟩, ⟨?_, ?_⟩, ⟨?_, ?_⟩, ⟨?_, ?_⟩, ⟨?_, ?_⟩, ⟨?_, ?_⟩, ⟨?_, ?_⟩, ⟨?_, ?_⟩, hs3, hr3, hn3, ho3⟩
        all_goals first | (simp only [zEV, Nat.reduceShiftRight, Nat.reduceMod, Nat.reduceEqDiff, Nat.reduceAdd, ↓reduceIte, reduceCtorEq, x2, y2, x3, y3, x5, y5, x9, y9, x11, y11, x12, y12, x23, y23, x24, y24, x25, y25, x43, y43, x44, y44, x45, y45, x51, y51, x52, y52, x53, y53]; done) | (simp only [zEV, Nat.reduceShiftRight, Nat.reduceMod, Nat.reduceEqDiff, Nat.reduceAdd, ↓reduceIte, reduceCtorEq, x2, y2, x3, y3, x5, y5, x9, y9, x11, y11, x12, y12, x23, y23, x24, y24, x25, y25, x43, y43, x44, y44, x45, y45, x51, y51, x52, y52, x53, y53]; rfl) | omega
    · have hltj : (Int.ofNat j < Int.ofNat fs.length) = False := eq_false (fun h => hlt (Int.ofNat_lt.1 h))
      have hsu : (wrapK .i64 (Int.ofNat 0 + 1)) = Int.ofNat 1 := nat_succ (show 0 < 9223372036854775807 by omega)
      rw [List.take_of_length_le (by omega)] at hsl
      simp only [zEV, Nat.reduceShiftRight, Nat.reduceMod, Nat.reduceEqDiff, Nat.reduceAdd, ↓reduceIte, reduceCtorEq, b2, d2, b3, d3, b5, d5, b9, d9, b11, d11, b12, d12, b23, d23, b24, d24, b25, d25, b43, d43, b44, d44, b45, d45, hltj, hsu]
      refine ⟨_, ?_, 1, c, rfl, Nat.le_refl _, ⟨?_, ?_⟩, ⟨?_, ?_⟩, ⟨?_, ?_⟩, ⟨?_, ?_⟩, ⟨?_, ?_⟩, ⟨?_, ?_⟩, ⟨?_, ?_⟩, ⟨?_, ?_⟩, ⟨?_, ?_⟩, r5d.keep (ho6 p5 (by omega)), r9d.keep (ho6 p9 (by omega)), r12d.keep (ho6 p12 (by omega)), by omega, .inr ⟨rfl, hsl, by omega, fun x hx => by have := hrw x hx; omega⟩⟩
      all_goals first | (simp only [zEV, Nat.reduceShiftRight, Nat.reduceMod, Nat.reduceEqDiff, Nat.reduceAdd, ↓reduceIte, reduceCtorEq, b2, d2, b3, d3, b5, d5, b9, d9, b11, d11, b12, d12, b23, d23, b24, d24, b25, d25, b43, d43, b44, d44, b45, d45]; done) | (simp only [zEV, Nat.reduceShiftRight, Nat.reduceMod, Nat.reduceEqDiff, Nat.reduceAdd, ↓reduceIte, reduceCtorEq, b2, d2, b3, d3, b5, d5, b9, d9, b11, d11, b12, d12, b23, d23, b24, d24, b25, d25, b43, d43, b44, d44, b45, d45]; rfl) | omega
  · have hlt' : (Int.ofNat 1 < 1) = False := eq_false (by decide)
    simp only [zEV, Nat.reduceShiftRight, Nat.reduceMod, Nat.reduceEqDiff, Nat.reduceAdd, ↓reduceIte, reduceCtorEq, g2, k2, g3, k3, g5, k5, g9, k9, g11, k11, g12, k12, g23, k23, g24, k24, g25, k25, hlt']
    refine go_drawD _ _ 3 5 [0, 0, 1, 7, 15] rfl (by kernel_rfl) (by kernel_rfl) (by kernel_rfl) ?_
    have l12 := ldA3 hel r12
    have r9f : LRow ⟨s'.h, s'.nx + 5⟩ p9 [.nils, .nils, .nils] := r9.keep rfl
    obtain ⟨t4, w4, r4, n4, o4⟩ := r9f.over (r := cellsD e) hec
    simp only [zEV, Nat.reduceShiftRight, Nat.reduceMod, Nat.reduceEqDiff, Nat.reduceAdd, ↓reduceIte, reduceCtorEq, zDH, Nat.reduceOr, Nat.reduceAnd, Nat.reduceShiftLeft, Nat.reduceLT, g2, k2, g3, k3, g5, k5, g9, k9, g11, k11, g12, k12, ldh28, l12]
    rw [dt_B]
    refine dtB_storeL r9f rfl (b := p9) (o := 0) (w := .agg (cellsD e)) (s' := t4) (by simp only [zEA, Nat.reduceShiftRight, Nat.reduceMod, Nat.reduceEqDiff, Nat.reduceAdd, ↓reduceIte, reduceCtorEq, g9, k9]) (by simp only [zEA, Nat.reduceShiftRight, Nat.reduceMod, Nat.reduceEqDiff, Nat.reduceAdd, ↓reduceIte, reduceCtorEq]) (by rw [st28, show (W.agg (cellsD e)).cells = cellsD e from rfl, if_pos hec]; exact w4) ?_
    rw [dtB_assign, dtB_nil]
    have l9 := ldA3 hel r4
    simp only [zEV, Nat.reduceShiftRight, Nat.reduceMod, Nat.reduceEqDiff, Nat.reduceAdd, ↓reduceIte, reduceCtorEq, g2, k2, g3, k3, g5, k5, g9, k9, g11, k11, g12, k12, ldh28, l9, hres]
    refine hK1 hle c t4 (SlAt_keep hsl (by rw [n4]; exact Nat.le_add_right _ _) fun x hx => o4 x (by have := hp9r x hx; omega))
end Ws
