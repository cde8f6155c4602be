import Derived.Test.YtjmnhilkgjfllaaGreatDoorEvZe
import Derived.Lib.Bytealg
import Derived.Below
set_option linter.unusedVariables false
set_option linter.unusedSimpArgs false
namespace Ev
open Go

theorem findB_ok (l : List UInt8) (b : Nat) (hb : b < 256) : ∀ f i, i + f = l.length → findB (Str.ofL l) b f i = (if Lib.indexByte (l.drop i) b.toUInt8 == -1 then -1 else (i : Int) + Lib.indexByte (l.drop i) b.toUInt8) := by
  intro f
  induction f with
  | zero =>
    intro i h
    rw [List.drop_of_length_le (by omega)]; rfl
  | succ f ih =>
    intro i h
    have hi : i < l.length := by omega
    rw [List.drop_eq_getElem_cons hi]
    have step : ∀ (x : UInt8) (r : List UInt8) (c : UInt8), Lib.indexByte (x :: r) c = if x == c then 0 else if Lib.indexByte r c == -1 then -1 else Lib.indexByte r c + 1 := fun _ _ _ => rfl
    have e : (l[i] == b.toUInt8) = Nat.beq l[i].toNat b := by
      rw [Bool.eq_iff_iff, beq_iff_eq]
      constructor
      · intro h; rw [h]; simp [Nat.mod_eq_of_lt hb]
      · intro h
        have := Nat.eq_of_beq_eq_true h
        rw [← this]; simp
    simp only [findB]
    rw [Str.at_ofL l i hi]
    cases hq : Nat.beq l[i].toNat b with
    | true =>
      rw [hq] at e
      have : Lib.indexByte (l[i] :: l.drop (i + 1)) b.toUInt8 = 0 := by rw [step, if_pos e]
      rw [this]
      simp
    | false =>
      rw [hq] at e
      have hs : Lib.indexByte (l[i] :: l.drop (i + 1)) b.toUInt8 = if Lib.indexByte (l.drop (i + 1)) b.toUInt8 == -1 then -1 else Lib.indexByte (l.drop (i + 1)) b.toUInt8 + 1 := by
        rw [step, if_neg (by rw [e]; simp)]
      have hge := Lib.indexByte_ge (l.drop (i + 1)) b.toUInt8
      show findB (Str.ofL l) b f (i + 1) = _
      rw [ih (i + 1) (by omega), hs]
      by_cases h1 : Lib.indexByte (l.drop (i + 1)) b.toUInt8 = -1
      · rw [h1]; simp
      · have e1 : (Lib.indexByte (l.drop (i + 1)) b.toUInt8 == -1) = false := by rw [beq_eq_false_iff_ne]; exact h1
        have h2 : ((Lib.indexByte (l.drop (i + 1)) b.toUInt8 + 1) == -1) = false := by rw [beq_eq_false_iff_ne]; omega
        rw [e1]
        simp only [Bool.false_eq_true, if_false]
        rw [h2]
        simp only [Bool.false_eq_true, if_false]
        omega

/-- what stays when everything that there was stays -/
theorem HRel.stays {ρ : Mp} {look : Look} {nx : Nat} {H H' : Array Obj} (h : HRel ρ look nx H) (hk : ∀ c, c < H.size → H'[c]? = H[c]?) : HRel ρ look nx H' where
  dom := h.dom
  blk b x hx ha := by
    obtain ⟨p, o, g1, g2, g3⟩ := h.blk b x hx ha
    exact ⟨p, o, g1, by rw [hk _ (Array.getElem?_eq_some_iff.1 g2).1]; exact g2, g3⟩
  apart := h.apart

/-- what an outer function does -/
def ExtOne (P : Program) (ng f : Nat) (x : Ext) : Prop := ∀ (args : List W) (s : St) (v : V) (s' : St) (ρ : Mp) (w : World) (vals : Array Value),
  HRel ρ s.h.get s.nx w.heap → GOk ng ρ → extF x args s = .ok v s' → All2 (WRel ρ) args vals.toList →
  ((callFunc f vals).run P w = .ok (.enter f vals) w ∧ Calls P f vals w (fun e w' => ∃ u, e = .returned u ∧ Done ρ s w v s' u w')) ∨
  (∃ u w', (callFunc f vals).run P w = .ok (.value u) w' ∧ Done ρ s w v s' u w')

theorem extOk_of {P : Program} {ng : Nat} (exts : List (Nat × Ext)) (kps : List (Nat × Nat)) (h : ∀ p ∈ exts, ExtOne P ng p.1 p.2) : ExtOk P (envOf P exts kps) ng := by
  intro f x hx
  have hx : (pairT exts .nil).get f = some x := hx
  rcases pairT_get f _ _ _ hx with g | g
  · cases g
  · exact h _ g

theorem ext_indexByte {P : Program} {ng f : Nat} {fn : Func} (hf : P.funcs[f]? = some fn) (hname : (fn.name == "runtime.NumGoroutine") = false) (hb : fn.body.isNone = true) (hn : Extern.findNext fn = none)
    (he : Extern.find fn = some Extern.BytealgIndexByte.indexByte) : ExtOne P ng f .indexByte := by
  intro args s v s' ρ w vals h hg hr hv
  right
  match args, hr with
  | [.c (.str z), .c (.int .u8 (.ofNat b))], hr =>
    have hr : (match Nat.ble (Nat.succ b) 256 with
      | true => VS.ok (vc (.int .i64 (findB z b z.len 0))) s
      | false => .no) = .ok v s' := hr
    cases hble : Nat.ble (Nat.succ b) 256 with
    | false => rw [hble] at hr; cases hr
    | true =>
      rw [hble] at hr
      cases hr
      have hb256 : b < 256 := Nat.le_of_ble_eq_true hble
      obtain ⟨l⟩ := vals
      cases hv with
      | cons h1 h2 =>
        cases h2 with
        | cons h3 h4 =>
          cases h4
          obtain ⟨bs, rfl, rfl⟩ := h1
          have h3 : _ = Value.int .u8 (Int.ofNat b) := h3
          subst h3
          refine ⟨.int .i64 (Lib.indexByte bs.data.toList b.toUInt8), w, ?_, ρ, ⟨Post.refl h, Same.refl w⟩, ?_⟩
          · rw [run_callFunc_extern hf hname hb hn he, Lib.run_indexByteString]
            rfl
          · show Value.int .i64 _ = Value.int .i64 (findB (Str.of bs) b (Str.of bs).len 0)
            rw [Str.of_eq, findB_ok _ b hb256 _ 0 (by show 0 + bs.data.toList.length = _; omega)]
            simp only [List.drop_zero]
            split
            · rename_i h1; simp at h1; rw [h1]
            · simp

theorem ext_clone {P : Program} {ng f : Nat} (hin : ∀ args w, (callFunc f args).run P w = .ok (.enter f args) w)
    (hc : ∀ (s : ByteArray) (w : World), s.size ≤ 281474976710656 → Calls P f #[.string s] w fun e w' => e = .returned (.string s) ∧ RowKit.Below w.heap.size w w') : ExtOne P ng f .same := by
  intro args s v s' ρ w vals h hg hr hv
  left
  refine ⟨hin _ _, ?_⟩
  match args, hr with
  | [.c (.str z)], hr =>
    have hr : (match Nat.ble z.len 281474976710656 with
      | true => VS.ok (vc (.str z)) s
      | false => .no) = .ok v s' := hr
    cases hble : Nat.ble z.len 281474976710656 with
    | false => rw [hble] at hr; cases hr
    | true =>
      rw [hble] at hr
      cases hr
      obtain ⟨l⟩ := vals
      cases hv with
      | cons h1 h2 =>
        cases h2
        obtain ⟨bs, rfl, rfl⟩ := h1
        have hlen : bs.size ≤ 281474976710656 := Nat.le_of_ble_eq_true hble
        refine Calls.mono (hc bs w hlen) ?_
        rintro e w' ⟨rfl, hb⟩
        have hk : ∀ c, c < w.heap.size → w'.heap[c]? = w.heap[c]? := fun c hc => hb.block c hc
        exact ⟨_, rfl, ρ, ⟨⟨fun _ _ => rfl, Nat.le_refl _, HRel.stays h hk, hb.size, fun c hc _ => hk c hc, fun b x p h1 h2 h3 _ => ⟨b, x, p, h1, h2, h3, rfl⟩, fun b x p h1 h2 h3 _ => ⟨b, x, p, h1, h2, h3, rfl⟩⟩, ⟨hb.os, hb.output⟩⟩, ⟨bs, rfl, rfl⟩⟩

/-! ### what has no arguments and comes to one plain value -/
def litC : C → Bool
  | .bool _ => true
  | .int _ _ => true
  | .str _ => true
  | _ => false
theorem litC_rel {c : C} (h : litC c = true) {ρ ρ' : Mp} {v : Value} (hr : CRel ρ c v) : CRel ρ' c v := by
  cases c <;> simp only [litC, Bool.false_eq_true] at h <;> exact hr
theorem plainC_rel {c : C} (h : plainC c = true) {ρ ρ' : Mp} {v : Value} (hr : CRel ρ c v) : CRel ρ' c v := by
  cases c <;> simp only [plainC, Bool.false_eq_true] at h <;> exact hr

theorem rows0_get : ∀ (gs : List (Nat × List C)) (g : Nat) (x : Blk), (rows0 gs).get g = some x → ∃ l, (g, l) ∈ gs ∧ x = .row (row0 l) := by
  intro gs
  induction gs with
  | nil => intro g x h; cases h
  | cons p gs ih =>
    intro g x h
    obtain ⟨g', l⟩ := p
    simp only [rows0, T.get_set] at h
    split at h
    · rename_i e; cases h; subst e; exact ⟨l, by simp, rfl⟩
    · obtain ⟨l', h1, h2⟩ := ih g x h
      exact ⟨l', by simp [h1], h2⟩

/-- what fits -/
def Fits (x y : C) : Prop := y = .unk ∨ x = y
theorem fitL_spec : ∀ {l r : List C}, fitL l r = true → All2 Fits l r
  | [], [], _ => .nil
  | [], _ :: _, h => by simp [fitL] at h
  | _ :: _, [], h => by simp [fitL] at h
  | x :: l, y :: r, h => by
    simp only [fitL] at h
    split at h
    · exact .cons (.inl rfl) (fitL_spec h)
    · cases hc : C.same x y with
      | false => rw [hc] at h; cases h
      | true => rw [hc] at h; exact .cons (.inr (C.same_eq hc)) (fitL_spec h)
theorem fits_rel {x y : C} (h : Fits x y) {ρ : Mp} {v : Value} (hr : CRel ρ x v) : CRel ρ y v := by
  rcases h with rfl | rfl
  · exact CRel.one hr
  · exact hr
theorem rowsAre_spec {look : Look} : ∀ (gs : List (Nat × List C)), rowsAre look gs = true → ∀ g l, (g, l) ∈ gs → ∃ r l', look g = some (.row r) ∧ readR r 0 r.n = some l' ∧ All2 Fits l' l := by
  intro gs
  induction gs with
  | nil => intro _ g l h; simp at h
  | cons p gs ih =>
    intro h g l hm
    obtain ⟨g', l'⟩ := p
    simp only [rowsAre] at h
    cases hb : rowIs look g' l' with
    | false => rw [hb] at h; cases h
    | true =>
      rw [hb] at h
      rcases List.mem_cons.1 hm with e | hm
      · cases e
        unfold rowIs at hb
        cases hr : rowOf look g with
        | none => rw [hr] at hb; cases hb
        | some r =>
          rw [hr] at hb
          simp only [] at hb
          cases hl : readR r 0 r.n with
          | none => rw [hl] at hb; cases hb
          | some l2 =>
            rw [hl] at hb
            simp only [] at hb
            refine ⟨r, l2, ?_, hl, fitL_spec hb⟩
            unfold rowOf at hr
            cases hx : look g with
            | none => rw [hx] at hr; cases hr
            | some x =>
              rw [hx] at hr
              cases x <;> first | (cases hr; rfl) | cases hr
      · exact ih h g l hm

/-- the rows of the start, in a world in which a state tells of them -/
theorem hrel_rows {ρ : Mp} {look : Look} {nx ng : Nat} {H : Array Obj} (h : HRel ρ look nx H) (gs : List (Nat × List C)) (hgs : gs.all (fun p => and (p.2.all plainC) (decide (p.1 < ng))) = true) (ha : rowsAre look gs = true) :
    HRel (fun g => if g < ng then ρ g else none) (st0 gs ng).h.get (st0 gs ng).nx H where
  dom b p hb := by
    by_cases e : b < ng
    · exact e
    · simp only [if_neg e] at hb; cases hb
  blk b x hx _ := by
    obtain ⟨l, hm, rfl⟩ := rows0_get gs b x hx
    have hp := List.all_eq_true.1 hgs _ hm
    rw [Bool.and_eq_true, decide_eq_true_eq] at hp
    obtain ⟨r, l', q1, q2, hfit⟩ := rowsAre_spec gs ha b l hm
    obtain ⟨p, o, g1, g2, arr, e, fz, rfl, hr⟩ := h.blk b _ q1 rfl
    refine ⟨p, _, by simp only [if_pos hp.2]; exact g1, g2, arr, e, fz, rfl, ?_⟩
    obtain ⟨q, n, leaf, sh, anc⟩ := r
    obtain ⟨_, hl2⟩ := readR_some q2
    obtain ⟨h3, h4⟩ := T.getL_some hl2
    have hlen : n = l.length := by rw [← hfit.length]; exact h3.symm
    have hrn : (row0 l).n = n := by
      show lenA l 0 = n
      rw [lenA_zero, hlen]
    refine ⟨hr.tot, by rw [hrn]; exact hr.kn, by rw [hrn]; exact hr.le, Nat.zero_le _, ?_, (fun hl => by cases hl), (fun hl => by cases hl)⟩
    intro i x hi hx
    rw [hrn] at hi
    have hx' : (T.ofL l).get i = some x := hx
    rw [T.get_ofL] at hx'
    obtain ⟨y, y1, y2⟩ := hfit.get' hx'
    have hy := h4 i hi
    rw [Nat.zero_add] at hy
    obtain ⟨v, k1, k2⟩ := hr.cell i y hi (hy.trans y1)
    exact ⟨v, k1, plainC_rel (List.all_eq_true.1 hp.1 x (List.mem_of_getElem? hx')) (fits_rel y2 k2)⟩
  apart b x b' x' p p' hx hw := by
    obtain ⟨l, _, rfl⟩ := rows0_get gs b x hx
    cases hw

theorem st0_frame {ρ : Mp} {gs : List (Nat × List C)} {ng : Nat} {H H' : Array Obj} {ρ' : Mp} {s' : St} (hp : Post ρ (st0 gs ng) H ρ' s' H') : ∀ c, c < H.size → H'[c]? = H[c]? :=
  fun c hc => hp.frame c hc fun b x p hx hw => by
    obtain ⟨l, _, rfl⟩ := rows0_get gs b x hx
    cases hw

section
variable {P : Program} {kps : List (Nat × Nat)} {exts : List (Nat × Ext)}

theorem run_calls' (hany : P.follows .mixedOrders = true) (ht : typesOk P = true) (hk : kps.all (fun p => fnOk P p.1) = true) (hx : ∀ p ∈ exts, ExtOne P P.globals.size p.1 p.2) {lf n f : Nat} {args : List W} {s s' : St} {v : V} {ρ : Mp} {w : World} {vals : Array Value}
    (hf : (pairT exts .nil).get f = none) (h : HRel ρ s.h.get s.nx w.heap) (hg : GOk P.globals.size ρ) (hr : runF (envOf P exts kps) lf (n + 1) f args s = .ok v s') (hv : All2 (WRel ρ) args vals.toList) :
    (callFunc f vals).run P w = .ok (.enter f vals) w ∧ Calls P f vals w (fun e w' => ∃ u, e = .returned u ∧ Done ρ s w v s' u w') := by
  replace hr : (@Option.rec Ext (fun _ => VS) (@Option.rec Nat (fun _ => VS) .no (fun ks => @Option.rec Func (fun _ => VS) .no (fun fn => runB (envOf P exts kps) (runF (envOf P exts kps) lf n) lf ks fn args s) ((envOf P exts kps).fns.get f)) ((envOf P exts kps).kps.get f))
    (fun x => @VS.rec (fun _ => VS) (fun v s' => .ok v s') (@Option.rec Nat (fun _ => VS) .no (fun ks => @Option.rec Func (fun _ => VS) .no (fun fn => runB (envOf P exts kps) (runF (envOf P exts kps) lf n) lf ks fn args s) ((envOf P exts kps).fns.get f)) ((envOf P exts kps).kps.get f)) (extF x args s)) ((envOf P exts kps).ext.get f)) = .ok v s' := hr
  have hfe : (envOf P exts kps).ext.get f = none := hf
  rw [hfe] at hr
  have hE := envOf_ok P exts kps hany ht
  have hc := runF_ok hE (kps_ok P exts kps hk) (extOk_of exts kps hx) (fun call hc => draw_sound hE hc) lf n
  cases hks : (envOf P exts kps).kps.get f with
  | none => rw [hks] at hr; cases hr
  | some ks =>
    rw [hks] at hr
    simp only [] at hr
    cases hfn : (envOf P exts kps).fns.get f with
    | none => rw [hfn] at hr; cases hr
    | some fn =>
      rw [hfn] at hr
      exact runB_ok hE (kps_ok P exts kps hk) hc (draw_sound hE hc) hks hfn hr h hg hv

/-- a value of a run -/
def valOf (r : VS) : Option C := match r with
  | .ok (.w (.c c)) _ => some c
  | _ => none
theorem valOf_some {r : VS} {c : C} (h : valOf r = some c) : ∃ s', r = .ok (.w (.c c)) s' := by
  unfold valOf at h
  split at h
  · cases h; exact ⟨_, rfl⟩
  · cases h

/-- a function without arguments whose value was reckoned once -/
theorem ext_const (hany : P.follows .mixedOrders = true) (ht : typesOk P = true) (hk : kps.all (fun p => fnOk P p.1) = true) (hx : ∀ p ∈ exts, ExtOne P P.globals.size p.1 p.2) {lf n f : Nat} (gs : List (Nat × List C)) {c : C}
    (hgs : gs.all (fun p => and (p.2.all plainC) (decide (p.1 < P.globals.size))) = true) (hf : (pairT exts .nil).get f = none) (hc : litC c = true)
    (hr : valOf (runF (envOf P exts kps) lf (n + 1) f [] (st0 gs P.globals.size)) = some c) : ExtOne P P.globals.size f (.const c gs) := by
  intro args s v s' ρ w vals h hg hr' hv
  left
  obtain ⟨s1, hs1⟩ := valOf_some hr
  match args, hr' with
  | [], hr' =>
    have hr' : (match rowsAre s.h.get gs with | true => VS.ok (vc c) s | false => .no) = .ok v s' := hr'
    cases ha : rowsAre s.h.get gs with
    | false => rw [ha] at hr'; cases hr'
    | true =>
      rw [ha] at hr'
      cases hr'
      have hrel := hrel_rows h gs hgs ha
      have hgok : GOk P.globals.size (fun g => if g < P.globals.size then ρ g else none) := fun g hlt => by
        obtain ⟨p, q1, q2⟩ := hg g hlt
        exact ⟨p, by simp only [if_pos hlt]; exact q1, q2⟩
      obtain ⟨l⟩ := vals
      cases hv
      have := run_calls' hany ht hk hx hf hrel hgok hs1 (vals := #[]) .nil
      refine ⟨this.1, Calls.mono this.2 ?_⟩
      rintro e w' ⟨u, rfl, ρ', ⟨hp, hsm⟩, hu⟩
      have hkept := st0_frame hp
      have hrel' := HRel.stays h hkept
      exact ⟨u, rfl, ρ, ⟨⟨fun _ _ => rfl, Nat.le_refl _, hrel', hp.sz, fun c hc _ => hkept c hc, fun b x p h1 h2 h3 _ => ⟨b, x, p, h1, h2, h3, rfl⟩, fun b x p h1 h2 h3 _ => ⟨b, x, p, h1, h2, h3, rfl⟩⟩, hsm⟩, litC_rel hc hu⟩

/-- where some package variables are known -/
def rhoG (gs : List (Nat × List C)) (ng : Nat) : Mp := fun g => if g < ng then some ⟨g, 0, ((gs.lookup g).map List.length).getD 0, ((gs.lookup g).map List.length).getD 0⟩ else none
theorem lookup_get {gs : List (Nat × List C)} {g : Nat} {x : Blk} (h : (rows0 gs).get g = some x) : ∃ l, gs.lookup g = some l ∧ (g, l) ∈ gs ∧ x = .row (row0 l) := by
  induction gs with
  | nil => cases h
  | cons p gs ih =>
    obtain ⟨g', l⟩ := p
    simp only [rows0, T.get_set] at h
    split at h
    · rename_i e; cases h; subst e; exact ⟨l, by simp [List.lookup], by simp, rfl⟩
    · rename_i e
      obtain ⟨l', h1, h2, h3⟩ := ih h
      refine ⟨l', ?_, by simp [h2], h3⟩
      have : (g == g') = false := by simpa using e
      simp [List.lookup, this, h1]

/-- the world holds these rows -/
def HoldsRows (gs : List (Nat × List C)) (H : Array Obj) : Prop := ∀ g l, (g, l) ∈ gs → ∃ arr e fz, H[g]? = some (.cells arr e fz) ∧ All2 (CRel (fun _ => none)) l arr.toList

theorem hrelG {gs : List (Nat × List C)} {ng : Nat} {H : Array Obj} (hgs : gs.all (fun p => and (p.2.all plainC) (decide (p.1 < ng))) = true) (hH : HoldsRows gs H) : HRel (rhoG gs ng) (st0 gs ng).h.get ng H where
  dom b p h := by unfold rhoG at h; split at h <;> first | assumption | cases h
  blk b x hx _ := by
    obtain ⟨l, hl, hm, rfl⟩ := lookup_get hx
    have hp := List.all_eq_true.1 hgs _ hm
    rw [Bool.and_eq_true, decide_eq_true_eq] at hp
    obtain ⟨arr, e, fz, g1, g2⟩ := hH b l hm
    have hlen := g2.length
    simp at hlen
    refine ⟨⟨b, 0, l.length, l.length⟩, _, by unfold rhoG; rw [if_pos hp.2, hl]; rfl, g1, arr, e, fz, rfl, ?_⟩
    have hrn : (row0 l).n = l.length := by
      show lenA l 0 = l.length
      rw [lenA_zero]
    refine ⟨by simp [hlen], hrn, by rw [hrn]; simp, Nat.zero_le _, ?_, (fun hl => by cases hl), (fun hl => by cases hl)⟩
    intro i x hi hx
    have hx' : (T.ofL l).get i = some x := hx
    rw [T.get_ofL] at hx'
    obtain ⟨v, k1, k2⟩ := g2.get hx'
    exact ⟨v, by simpa using k1, plainC_rel (List.all_eq_true.1 hp.1 x (List.mem_of_getElem? hx')) k2⟩
  apart b x b' x' p p' hx hw := by
    obtain ⟨l, _, rfl⟩ := rows0_get gs b x hx
    cases hw
theorem gokG (gs : List (Nat × List C)) (ng : Nat) : GOk ng (rhoG gs ng) := fun g h => ⟨_, by unfold rhoG; rw [if_pos h], rfl, rfl⟩

theorem keptG {gs : List (Nat × List C)} {ng : Nat} {ρ : Mp} {w w' : World} {v : V} {s' : St} {u : Value} (h : Done ρ (st0 gs ng) w v s' u w') (may : MemPlace → Prop) : w.keptBut w' may ∧ w.heap.size ≤ w'.heap.size := by
  obtain ⟨ρ', ⟨hp, hs⟩, _⟩ := h
  refine ⟨⟨hs.1, hs.2, fun i hi => ?_⟩, hp.sz⟩
  rw [st0_frame hp i hi]
  cases w.heap[i]? with
  | none => rfl
  | some o => cases o <;> first | rfl | exact ⟨rfl, rfl, rfl, fun _ _ => rfl⟩ | exact .inr ⟨rfl, rfl⟩

theorem law_true_g (hany : P.follows .mixedOrders = true) (ht : typesOk P = true) (hk : kps.all (fun p => fnOk P p.1) = true) (hx : ∀ p ∈ exts, ExtOne P P.globals.size p.1 p.2) {lf n f : Nat} {args : List W} {vals : Array Value} (gs : List (Nat × List C))
    (hgs : gs.all (fun p => and (p.2.all plainC) (decide (p.1 < P.globals.size))) = true) (hf : (pairT exts .nil).get f = none)
    (hr : isTrue (runF (envOf P exts kps) lf (n + 1) f args (st0 gs P.globals.size)) = true) (hv : ∀ ρ, All2 (WRel ρ) args vals.toList) (w : World) (hw : HoldsRows gs w.heap) :
    Calls P f vals w (fun e w' => e = .returned (.bool true) ∧ w.keptBut w' (fun _ => False) ∧ w.heap.size ≤ w'.heap.size) := by
  obtain ⟨s', hs⟩ := isTrue_some hr
  refine Calls.mono (run_calls' hany ht hk hx hf (hrelG hgs hw) (gokG _ _) hs (hv _)).2 ?_
  rintro e w' ⟨u, rfl, hd⟩
  have hk := keptG hd (fun _ => False)
  obtain ⟨ρ', _, hu⟩ := hd
  have : u = .bool true := hu
  subst this
  exact ⟨rfl, hk.1, hk.2⟩
end
end Ev
